/- The walk of the law DayAdds. -/
import Derived.Test.YtkgmojaecaghmaaDoorRefRead
import Derived.Test.YtkgmojaecaghmaaDoorDayDates
namespace Go.Proofs.YtkgmojaecaghmaaDoor
open Go.RowKit Lmd
namespace Day
open Er Ref

set_option maxHeartbeats 800000 in
theorem refAdd_off (n mo : Int) (w : World) (h : ¬ (0 ≤ n ∧ n ≤ 73048) ∨ (0 ≤ n ∧ n ≤ 73048) ∧ (2400 < mo ∨ (¬ 2400 < mo ∧ mo < -2400))) :
    Calls Tryd.prog 40 #[.int .i64 n, .int .i64 mo] w fun e w' => e = .returned (.tuple #[.int .i64 0, .bool false]) ∧ w = w' := by
  rcases h with h | ⟨h, h1 | ⟨h1, h2⟩⟩
  · go_enter Tryd.func40, Tryd.ntmps40
    go_wp2_with fail
    refine (isDay_no n _ h).mono ?_; rintro e w' ⟨rfl, rfl⟩
    go_wp2_with fail
    go_ret2
    exact ⟨rfl, rfl⟩
  · go_enter Tryd.func40, Tryd.ntmps40
    go_wp2_with fail
    refine (isDay_yes n _ h).mono ?_; rintro e w' ⟨rfl, rfl⟩
    go_wp2_with fail
    go_ret2
    exact ⟨rfl, rfl⟩
  · go_enter Tryd.func40, Tryd.ntmps40
    go_wp2_with fail
    refine (isDay_yes n _ h).mono ?_; rintro e w' ⟨rfl, rfl⟩
    go_wp2_with fail
    go_ret2
    exact ⟨rfl, rfl⟩

theorem add_both (e : Nat → Addr) (n mo : Int) : ∃ (x : Int) (b : Bool), (∀ w, Errs w e → Calls Tryd.prog 24 #[.int .i64 n, .int .i64 mo] w fun e' w' => e' = .returned (.tuple #[.int .i64 x, .bool b]) ∧ Below w.heap.size w w') ∧
    (∀ w, Calls Tryd.prog 40 #[.int .i64 n, .int .i64 mo] w fun e' w' => e' = .returned (.tuple #[.int .i64 x, .bool b]) ∧ Below w.heap.size w w') := by
  by_cases hn : 0 ≤ n ∧ n ≤ 73048
  · by_cases hm : -2400 ≤ mo ∧ mo ≤ 2400
    · obtain ⟨y, m, d, ha⟩ := Cal.at_exists n hn.1 hn.2
      refine ⟨Cal.addV (Cal.kth y m mo) d, Cal.addB (Cal.kth y m mo) d, fun w hw => (add_any n y m d mo (e 1) w ha (by omega) (by omega) hw.s1.cell).mono ?_, fun w => (refAdd_at n y m d mo w ha hm.1 hm.2).mono ?_⟩
      · rintro e' w' ⟨rfl, k, rfl⟩; exact ⟨rfl, below_draw (Below.refl _ _) k⟩
      · rintro e' w' ⟨rfl, k, rfl⟩; exact ⟨rfl, below_draw (Below.refl _ _) k⟩
    · refine ⟨0, false, fun w hw => ?_, fun w => (refAdd_off n mo w (Or.inr ⟨hn, by omega⟩)).mono ?_⟩
      · by_cases hb : mo < -100000 ∨ 100000 < mo
        · refine (add_off n mo (e 1) w (Or.inr ⟨hn.1, hn.2, hb⟩) hw.s1.cell).mono ?_
          rintro e' w' ⟨rfl, k, rfl⟩; exact ⟨rfl, below_draw (Below.refl _ _) k⟩
        · obtain ⟨y, m, d, ha⟩ := Cal.at_exists n hn.1 hn.2
          have hk : Cal.addB (Cal.kth y m mo) d = false := by
            cases hb : Cal.addB (Cal.kth y m mo) d with
            | false => rfl
            | true =>
              have h1 := Cal.addB_yes hb
              have h2 := Cal.ok_range h1.2
              have h3 := Cal.ok_range ha.1
              have hkd : Cal.kth y m mo = 12 * (y - 2000) + m - 1 + mo := rfl
              omega
          refine (add_none n y m d mo (e 1) w ha (by omega) (by omega) hk hw.s1.cell).mono ?_
          rintro e' w' ⟨rfl, k, rfl⟩; exact ⟨rfl, below_draw (Below.refl _ _) k⟩
      · rintro e' w' ⟨rfl, rfl⟩; exact ⟨rfl, Below.refl _ _⟩
  · refine ⟨0, false, fun w hw => (add_off n mo (e 1) w (Or.inl hn) hw.s1.cell).mono ?_, fun w => (refAdd_off n mo w (Or.inl hn)).mono ?_⟩
    · rintro e' w' ⟨rfl, k, rfl⟩; exact ⟨rfl, below_draw (Below.refl _ _) k⟩
    · rintro e' w' ⟨rfl, rfl⟩; exact ⟨rfl, Below.refl _ _⟩

/-- an error's value and its number -/
def EV (e : Nat → Addr) (v : Value) (c : Int) : Prop := v = .nilIface ∧ c = 0 ∨ ∃ k : Nat, k < 11 ∧ v = ev (e k) ∧ c = (k : Int) + 1
theorem coded_ev (e : Nat → Addr) (v : Value) (c : Int) (h : EV e v c) (w : World) (he : Errs w e) : Calls Tryd.prog 19 #[v, .int .i64 c] w fun e' w' => e' = .returned (.bool true) ∧ Below w.heap.size w w' := by
  rcases h with ⟨rfl, rfl⟩ | ⟨k, hk, rfl, rfl⟩
  · exact (coded_nil w).mono fun _ _ ⟨h1, h2⟩ => ⟨h1, h2 ▸ Below.refl _ _⟩
  · exact coded_sent e k hk _ rfl w he

theorem read_both (e : Nat → Addr) (s : ByteArray) : ∃ (v : Value) (x c : Int), EV e v c ∧
    (∀ w, Errs w e → Calls Tryd.prog 29 #[.string s] w fun e' w' => e' = .returned (.tuple #[.int .i64 x, v]) ∧ Below w.heap.size w w') ∧
    (∀ w, Calls Tryd.prog 41 #[.string s] w fun e' w' => e' = .returned (.tuple #[.int .i64 x, .int .i64 c]) ∧ Below w.heap.size w w') := by
  cases hs : Cal.shapeB s.data.toList with
  | false =>
    refine ⟨ev (e 0), 0, 1, Or.inr ⟨0, by omega, rfl, rfl⟩, fun w hw => (read_text s (e 0) w hs hw.s0.cell).mono ?_, fun w => ?_⟩
    · rintro e' w' ⟨rfl, k, rfl⟩; exact ⟨rfl, below_draw (Below.refl _ _) k⟩
    · by_cases hz : s.size = 10
      · refine (readDay_ten s w hz).mono ?_
        rintro e' w' ⟨hb, ⟨_, rfl⟩ | ⟨h, _⟩⟩
        · exact ⟨rfl, hb⟩
        · rw [hs] at h; cases h
      · refine (readDay_len s w hz).mono ?_
        rintro e' w' ⟨rfl, rfl⟩; exact ⟨rfl, Below.refl _ _⟩
  | true =>
    have hz : s.size = 10 := by
      unfold Cal.shapeB at hs
      simp only [Bool.and_eq_true, decide_eq_true_eq] at hs
      exact hs.1.1.1.1.1
    by_cases ho : Cal.Ok (Cal.yOf s.data.toList) (Cal.mOf s.data.toList) (Cal.dOf s.data.toList)
    · refine ⟨.nilIface, Cal.num (Cal.yOf s.data.toList) (Cal.mOf s.data.toList) (Cal.dOf s.data.toList), 0, Or.inl ⟨rfl, rfl⟩, fun w _ => (read_ok s w hs ho).mono ?_, fun w => (readDay_ten s w hz).mono ?_⟩
      · rintro e' w' ⟨rfl, rfl⟩; exact ⟨rfl, Below.refl _ _⟩
      · rintro e' w' ⟨hb, ⟨h, _⟩ | ⟨_, x, c, rfl, ⟨_, rfl, rfl⟩ | ⟨h, _⟩⟩⟩
        · rw [hs] at h; cases h
        · exact ⟨rfl, hb⟩
        · exact absurd ho h
    · refine ⟨ev (e 1), 0, 2, Or.inr ⟨1, by omega, rfl, rfl⟩, fun w hw => (read_bound s (e 1) w hs ho hw.s1.cell).mono ?_, fun w => (readDay_ten s w hz).mono ?_⟩
      · rintro e' w' ⟨rfl, k, rfl⟩; exact ⟨rfl, below_draw (Below.refl _ _) k⟩
      · rintro e' w' ⟨hb, ⟨h, _⟩ | ⟨_, x, c, rfl, ⟨h, _⟩ | ⟨_, rfl, rfl⟩⟩⟩
        · rw [hs] at h; cases h
        · exact absurd h ho
        · exact ⟨rfl, hb⟩

set_option maxRecDepth 100000 in
set_option maxHeartbeats 2000000 in
theorem dayAdds_any (n mo : Int) (s : ByteArray) (e : Nat → Addr) (w : World) (htab : Lib.TabIs Tryd.prog w "internal/strconv.uint64pow10" .u64 Lib.pow10Tab) (he : Errs w e) :
    Calls Tryd.prog 10 #[.int .i64 n, .int .i64 mo, .string s] w fun e' w' => e' = .returned (.bool true) ∧ Below w.heap.size w w' := by
  obtain ⟨x, b, A1, A2⟩ := add_both e n mo
  obtain ⟨v, y, c, hv, R1, R2⟩ := read_both e s
  have A1 := Lib.hid A1
  have A2 := Lib.hid A2
  have R1 := Lib.hid R1
  have R2 := Lib.hid R2
  have HV := Lib.hid hv
  clear hv
  by_cases hs : (20 : Int) < s.size
  · go_enter Tryd.func10, Tryd.ntmps10
    go_wp2_with fail
    refine (dated_any _ htab).mono ?_; rintro e' w1 ⟨rfl, hb⟩
    go_wp2_with fail
    go_ret
    exact ⟨rfl, hb⟩
  · go_enter Tryd.func10, Tryd.ntmps10
    go_wp2_with fail
    refine (dated_any _ htab).mono ?_; rintro e' w1 ⟨rfl, hb⟩
    have he1 := he.below hb
    clear he htab
    go_wp2_with fail
    refine (A1.out _ he1).mono ?_; rintro e' w2 ⟨rfl, hb1⟩
    have he2 := he1.below hb1
    have hb2 := below2 hb hb1
    clear he1 hb hb1
    go_wp2_with fail
    refine (A2.out _).mono ?_; rintro e' w3 ⟨rfl, hb1⟩
    have he3 := he2.below hb1
    have hb3 := below2 hb2 hb1
    clear he2 hb2 hb1
    go_wp2_with fail
    refine (R1.out _ he3).mono ?_; rintro e' w4 ⟨rfl, hb1⟩
    have he4 := he3.below hb1
    have hb4 := below2 hb3 hb1
    clear he3 hb3 hb1
    go_wp2_with fail
    refine (R2.out _).mono ?_; rintro e' w5 ⟨rfl, hb1⟩
    have he5 := he4.below hb1
    have hb5 := below2 hb4 hb1
    clear he4 hb4 hb1
    go_wp2_with fail
    refine (coded_ev e v c HV.out _ he5).mono ?_; rintro e' w6 ⟨rfl, hb1⟩
    go_wp2
    go_ret
    exact ⟨ret_bool (by simp), below2 hb5 hb1⟩
end Day
end Go.Proofs.YtkgmojaecaghmaaDoor
