/- tape.record, tape.one: one record. -/
import Derived.Test.YtmlndamkcipebaaDoorLength
namespace Go.Proofs.YtmlndamkcipebaaDoor
open Go Go.RowKit Lmd
namespace Tp
open Rul Day

theorem mk_cat (a b : List UInt8) : mk a ++ mk b = mk (a ++ b) := cat a b
theorem mk_self (s : ByteArray) : s = mk s.data.toList := str_mk s
theorem rec_cat (l : List UInt8) : mk (Lib.itoa (l.length : Int)) ++ ⟨#[58]⟩ ++ mk l ++ ⟨#[10, 46]⟩ = mk (recL l) := by
  have e1 : (⟨#[58]⟩ : ByteArray) = mk [58] := rfl
  have e2 : (⟨#[10, 46]⟩ : ByteArray) = mk [10, 46] := rfl
  rw [e1, e2, mk_cat, mk_cat, mk_cat]
  congr 1
  simp [recL]
set_option maxRecDepth 100000 in
set_option maxHeartbeats 2000000 in
theorem record_any (l : List UInt8) (w : World) (hs : l.length ≤ 2000000) (htab : Lib.TabIs Tryd.prog w "internal/strconv.uint64pow10" .u64 Lib.pow10Tab) :
    Calls Tryd.prog 51 #[.string (mk l)] w fun e w' => e = .returned (.string (mk (recL l))) ∧ Below w.heap.size w w' := by
  have hit := itoa_b (l.length : Int) (by omega) (by omega) w htab
  have hil := Lib.itoa_length_le (l.length : Int) (by omega) (by omega)
  have hrc := rec_cat l
  have hz : (mk l).size = l.length := by simp [ByteArray.size]
  obtain ⟨I, hI⟩ : ∃ I, Lib.itoa (l.length : Int) = I := ⟨_, rfl⟩
  obtain ⟨R, hR⟩ : ∃ R, mk (recL l) = R := ⟨_, rfl⟩
  obtain ⟨S, hS⟩ : ∃ S, mk l = S := ⟨_, rfl⟩
  rw [hI] at hit hil hrc
  rw [hR] at hrc ⊢
  rw [hS] at hrc hz ⊢
  have hsz : S.size ≤ 2000000 := by omega
  rw [← hz] at hit
  have HIT := Lib.hid hit
  have HRC := Lib.hid hrc
  clear hit hrc hI hR hS hz htab
  go_enter Tryd.func51, Tryd.ntmps51
  go_wp2_with fail
  refine HIT.out.mono ?_
  rintro e1 w1 ⟨rfl, hb1⟩
  have HB := Lib.hid hb1
  clear hb1 HIT
  go_wp2
  go_ret
  exact ⟨by rw [← HRC.out]; rfl, HB.out⟩

/-- the first record of a text -/
def oneV (b : List UInt8) : List UInt8 := if oneB b = true then oneS b else []
set_option maxRecDepth 100000 in
set_option maxHeartbeats 2000000 in
theorem one_any (s : ByteArray) (m : Int) (w : World) (hs : s.size ≤ 2000000) (hE : ELib w) (htab : Lib.TabIs Tryd.prog w "internal/strconv.uint64pow10" .u64 Lib.pow10Tab) (hm : w.cell? ⟨13, 0, none⟩ = some (.int .i64 m)) :
    Calls Tryd.prog 53 #[.string s] w fun e w' => e = .returned (.tuple #[.string (mk (oneV s.data.toList)), .bool (oneB s.data.toList)]) ∧ Below w.heap.size w w' := by
  have hl := length_any s m w hs hE htab hm
  obtain ⟨l, hl0⟩ : ∃ l, s.data.toList = l := ⟨_, rfl⟩
  rw [hl0] at hl ⊢
  have hlen : (lenR 58 l).length ≤ 2000000 := by
    have h1 : l.length = s.size := by rw [← hl0]; simp
    have h2 : (lenR 58 l).length ≤ l.length := by
      unfold lenR Lib.cut
      split
      · rw [List.length_drop]; omega
      · simp
    omega
  have HL := Lib.hid hl
  clear hl hl0 hE htab hm
  obtain ⟨R, hR⟩ : ∃ R, lenR 58 l = R := ⟨_, rfl⟩
  obtain ⟨n, hn⟩ : ∃ n, lenN 58 l = n := ⟨_, rfl⟩
  obtain ⟨k, hk⟩ : ∃ k, lenOk 58 l = k := ⟨_, rfl⟩
  have hone : oneB l = (k && decide (n ≤ 10000) && decide (n + 2 ≤ (R.length : Int)) && decide ((R.drop n.toNat).take 2 = [10, 46])) := by rw [← hk, ← hn, ← hR]; rfl
  have hval : oneV l = if oneB l = true then R.take n.toNat else [] := by rw [← hn, ← hR]; rfl
  unfold LenPost at HL
  rw [hR, hn, hk] at HL
  rw [hR] at hlen
  have hpos : k = true → 0 ≤ n := fun h => by rw [← hn]; exact (len_split (by rw [hk]; exact h)).2.1
  obtain ⟨o, ho⟩ : ∃ o, oneB l = o := ⟨_, rfl⟩
  obtain ⟨v, hv⟩ : ∃ v, oneV l = v := ⟨_, rfl⟩
  rw [ho] at hone hval ⊢
  rw [hv] at hval ⊢
  have HO := Lib.hid hone
  have HV := Lib.hid hval
  have HP := Lib.hid hpos
  clear hR hn hk hone hval hpos ho hv
  have hrz : (mk R).size = R.length := by simp [ByteArray.size]
  obtain ⟨S, hS⟩ : ∃ S, mk R = S := ⟨_, rfl⟩
  have hSR : S.data.toList = R := by rw [← hS]
  rw [hS] at HL hrz
  have HSR := Lib.hid hSR
  clear hS hSR
  go_enter Tryd.func53, Tryd.ntmps53
  go_wp2_with fail
  refine HL.out.mono ?_
  rintro e1 w1 ⟨n', rfl, hn', hb1⟩
  have HB := Lib.hid hb1
  clear hb1 HL
  cases k with
  | false =>
    obtain rfl : o = false := by rw [HO.out]; rfl
    obtain rfl : v = [] := by rw [HV.out]; rfl
    clear hn' HO HV HP
    go_wp2
    go_ret2
    exact ⟨rfl, HB.out⟩
  | true =>
    obtain rfl : n' = n := hn' rfl
    have h0 : 0 ≤ n' := HP.out rfl
    clear hn' HP
    by_cases h1 : n' ≤ 10000
    · by_cases h2 : n' + 2 ≤ (R.length : Int)
      · obtain ⟨j, rfl⟩ : ∃ j : Nat, n' = (j : Int) := ⟨n'.toNat, by omega⟩
        have hj2 : j + 2 ≤ S.size := by omega
        have hj3 : (j : Int) + 2 ≤ (S.size : Int) := by omega
        have hj4 : (j : Int) ≤ (S.size : Int) := by omega
        have hS2 : S.size ≤ 2000000 := by omega
        clear h2 hrz hlen
        have hmid : (S.extract j (j + 2)).toList = (R.drop j).take 2 := by
          rw [ByteArray.toList_eq, ext_mid, HSR.out]; congr 1; omega
        have hbeg : S.extract 0 j = mk (R.take j) := mk_of (by rw [ext_take, HSR.out])
        have hd1 : decide ((10000 : Int) < (j : Int)) = false := decide_eq_false (by omega)
        have hd2 : decide ((S.size : Int) < (j : Int) + 2) = false := decide_eq_false (by omega)
        have hz : R.length = S.size := by rw [← HSR.out]; simp
        have hjn : ((j : Int)).toNat = j := by simp
        by_cases he : (R.drop j).take 2 = [10, 46]
        · obtain rfl : o = true := by
            rw [HO.out, hjn, decide_eq_true he, decide_eq_true h1, decide_eq_true (by rw [hz]; exact hj3)]; rfl
          obtain rfl : v = R.take j := by rw [HV.out, if_pos rfl, hjn]
          have hb : ((S.extract j (j + 2)).toList == [10, 46]) = true := by rw [hmid, he]; rfl
          have HBEG := Lib.hid hbeg
          clear hmid hbeg he HO HV HSR hz hjn hd1 hd2
          go_wp2
          go_ret2
          exact ⟨by rw [HBEG.out]; rfl, HB.out⟩
        · obtain rfl : o = false := by rw [HO.out, hjn, decide_eq_false he, Bool.and_false]
          obtain rfl : v = [] := by rw [HV.out]; rfl
          have hb : ((S.extract j (j + 2)).toList == [10, 46]) = false := by rw [hmid]; exact beq_false_of_ne he
          clear hmid hbeg he HO HV HSR hz hjn hd1 hd2
          go_wp2
          go_ret2
          exact ⟨rfl, HB.out⟩
      · obtain rfl : o = false := by rw [HO.out, decide_eq_false h2]; simp
        obtain rfl : v = [] := by rw [HV.out]; rfl
        have h3 : (S.size : Int) < n' + 2 := by omega
        clear HO HV h2 hrz
        go_wp2
        go_ret2
        exact ⟨rfl, HB.out⟩
    · obtain rfl : o = false := by rw [HO.out, decide_eq_false h1]; rfl
      obtain rfl : v = [] := by rw [HV.out]; rfl
      clear HO HV
      go_wp2
      go_ret2
      exact ⟨rfl, HB.out⟩
end Tp
end Go.Proofs.YtmlndamkcipebaaDoor
