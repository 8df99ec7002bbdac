/- EvText, RuleTx, DayMore: texts of this claim, joined. -/
import Derived.Test.YtkhkhbeolhhomaaGreatDoorJ3
import Derived.Test.YtkhkhbeolhhomaaGreatDoorJ1
import Derived.Test.YtkhkhbeolhhomaaGreatDoorRuleText
import Derived.Test.YtkhkhbeolhhomaaGreatDoorDay
section
/- package event: Fields, Get, Text. -/
namespace Go.Proofs.YtkhkhbeolhhomaaGreatDoor
open Go Go.RowKit Go.Shelf Lmd
attribute [local go_sem] Oper.semAt_some
namespace Evt
open Rul Day Cand Er

/-- what a walk of texts asks of a world: the errors and the table of tens -/
structure Tb (w : World) (er : Nat → Addr) : Prop where
  errs : E7 w er
  tab : Lib.TabIs Tryz.prog w "internal/strconv.uint64pow10" .u64 Lib.pow10Tab
theorem Tb.below {w w' : World} {er : Nat → Addr} (h : Tb w er) (hb : Below w.heap.size w w') : Tb w' er :=
  ⟨h.errs.below hb, Frame.tab_below (g := 15) (by kernel_rfl) hb h.tab⟩

/-- a day's text; of no day: none -/
noncomputable def dayL (n : Int) : List UInt8 := open Classical in if 0 ≤ n ∧ n ≤ 73048 then dayT n else []
noncomputable def dayS (n : Int) : ByteArray := mk (dayL n)
theorem dayL_len (n : Int) : (dayL n).length ≤ 10 := by
  unfold dayL
  split
  · rename_i h
    obtain ⟨y, m, d, ha⟩ := Cal.at_exists n h.1 h.2
    rw [dayT_at ha]
    exact Nat.le_refl _
  · exact Nat.zero_le _
theorem dayText_any (n : Int) (er : Nat → Addr) (w : World) (h : Tb w er) :
    Calls Tryz.prog 107 #[.int .i64 n] w fun e w' => e = .returned (.string (dayS n)) ∧ Below w.heap.size w w' := by
  unfold dayS dayL
  by_cases hd : 0 ≤ n ∧ n ≤ 73048
  · rw [if_pos hd]
    obtain ⟨y, m, d, ha⟩ := Cal.at_exists n hd.1 hd.2
    rw [dayT_at ha]
    exact text_at n y m d w ha h.tab
  · rw [if_neg hd]
    exact (text_no n (er 1) w hd h.errs.s1.cell).mono fun _ _ ⟨h1, k, h2⟩ => ⟨h1, by rw [h2]; exact below_drewN (Below.refl _ _) k⟩

/-- texts of a row of one's own, joined -/
theorem join_any (xs : List ByteArray) (v : Value) (base : Nat) (sep : ByteArray) (w : World) (h : w.ownsRow base 9 1 v xs.length (cellsS xs)) (hl : xs.length ≤ 1000000) (hj : (Lib.join (xs.map (·.data.toList)) sep.data.toList).length ≤ 1000000000) :
    Calls Tryz.prog 104 #[v, .string sep] w fun e w' => e = .returned (.string (mk (Lib.join (xs.map (·.data.toList)) sep.data.toList))) ∧ Below w.heap.size w w' := by
  rcases reads_ownS h rfl with ⟨rfl, rfl⟩ | ⟨g, cap, rfl, h2, h3, h4⟩
  · exact (Tryz.strings_Join_none none 0 sep w).mono fun _ _ ⟨h1, h2⟩ => ⟨by rw [h1]; rfl, by rw [h2]; exact Below.refl _ _⟩
  · exact Tryz.strings_Join g 0 cap xs sep w h4 h3 (by omega) h2 (by omega)

theorem join_len (sep : List UInt8) (n : Nat) : ∀ xs : List (List UInt8), (∀ x ∈ xs, x.length ≤ n) → (Lib.join xs sep).length ≤ (n + sep.length) * xs.length
  | [], _ => by simp [Lib.join]
  | [x], h => by
    have := h x (by simp)
    simp [Lib.join]; omega
  | x :: y :: t, h => by
    have h1 := h x (by simp)
    have h2 := join_len sep n (y :: t) (fun z hz => h z (by simp [hz]))
    have e : Lib.join (x :: y :: t) sep = x ++ sep ++ Lib.join (y :: t) sep := by simp [Lib.join]
    rw [e]
    simp only [List.length_append, List.length_cons] at h2 ⊢
    have e2 : (n + sep.length) * (t.length + 1 + 1) = (n + sep.length) * (t.length + 1) + (n + sep.length) := by rw [Nat.mul_add (n + sep.length) (t.length + 1) 1, Nat.mul_one]
    omega
noncomputable def skipsL (xs : List Int) : List UInt8 := Lib.join ((xs.map dayS).map (·.data.toList)) [44]
noncomputable def moveS (m : Int × Int) : ByteArray := mk (dayL m.1 ++ [62] ++ dayL m.2)
noncomputable def movesL (xs : List (Int × Int)) : List UInt8 := Lib.join ((xs.map moveS).map (·.data.toList)) [44]
theorem mk_list (l : List UInt8) : (mk l).data.toList = l := rfl
theorem skipsL_len (xs : List Int) : (skipsL xs).length ≤ 11 * xs.length := by
  have := join_len [44] 10 ((xs.map dayS).map (·.data.toList)) (fun x hx => by
    simp only [List.map_map, List.mem_map] at hx
    obtain ⟨d, _, rfl⟩ := hx
    show (mk (dayL d)).data.toList.length ≤ 10
    rw [mk_list]; exact dayL_len d)
  simpa [skipsL] using this
theorem movesL_len (xs : List (Int × Int)) : (movesL xs).length ≤ 22 * xs.length := by
  have := join_len [44] 21 ((xs.map moveS).map (·.data.toList)) (fun x hx => by
    simp only [List.map_map, List.mem_map] at hx
    obtain ⟨m, _, rfl⟩ := hx
    show (mk _).data.toList.length ≤ 21
    rw [mk_list]
    have h1 := dayL_len m.1
    have h2 := dayL_len m.2
    simp only [List.length_append, List.length_cons, List.length_nil]; omega)
  simpa [movesL] using this

set_option maxRecDepth 100000 in
set_option maxHeartbeats 2000000 in
theorem skips_any (xs : List Int) (v : Value) (er : Nat → Addr) (w : World) (hT : Tb w er) (hr : Ints.Reads w v xs) (hl : xs.length ≤ 1000000) :
    Calls Tryz.prog 110 #[v] w fun e w' => e = .returned (.string (mk (skipsL xs))) ∧ Below w.heap.size w w' := by
  obtain ⟨a, cap, rfl⟩ := hr.shape
  have hll := skipsL_len xs
  have HR := Lib.hid hr
  have HT := Lib.hid hT
  have HLL := Lib.hid hll
  obtain ⟨n, hn⟩ : ∃ n, xs.length = n := ⟨_, rfl⟩
  have HN := Lib.hid hn
  rw [hn] at hl HR ⊢
  clear hr hT hn hll
  go_enter Tryz.func110, Tryz.ntmps110
  go_wp2_with fail
  go_loopw [3, 8] (fun v3 p wr => ∃ k : Nat, k ≤ n ∧ p = .int .i64 (k : Int) ∧ (∃ a c, v3 = .slice a k c) ∧ wr.ownsRow w.heap.size 9 1 v3 ((xs.take k).map dayS).length (cellsS ((xs.take k).map dayS)) ∧ Below w.heap.size w wr) (fun _ p _ => n - (intOf p).toNat)
  case atStart => exact ⟨0, Nat.zero_le _, rfl, ⟨none, 0, rfl⟩, ⟨by simp [cellsS], .inl ⟨rfl, rfl⟩⟩, Below.refl _ _⟩
  case round =>
    obtain ⟨k, hk, rfl, ⟨a7, c7, rfl⟩, hown, hbr⟩ := hrel
    have hsr := hbr.size
    have HOWN := Lib.hid hown
    have HBR := Lib.hid hbr
    have hfl : ((xs.take k).map dayS).length = k := by rw [List.length_map, List.length_take, HN.out]; omega
    by_cases hlt : k < n
    · obtain ⟨-, b, o, ha9, hc⟩ := (HR.out.below hbr).at (by intro h; have := HN.out; rw [h] at this; simp at this; omega)
      subst ha9
      have c1 := hc k (by rw [HN.out]; exact hlt)
      have hsn : (xs.take (k + 1)).map dayS = (xs.take k).map dayS ++ [dayS (Ints.el xs k)] := by
        rw [List.take_succ_eq_append_getElem (by rw [HN.out]; exact hlt), List.map_append, Ints.el_lt (by rw [HN.out]; exact hlt)]; rfl
      obtain ⟨x, hx⟩ : ∃ x, Ints.el xs k = x := ⟨_, rfl⟩
      rw [hx] at c1 hsn
      have hdt := dayText_any x er wr (HT.out.below hbr)
      obtain ⟨T, hTT⟩ : ∃ T, dayS x = T := ⟨_, rfl⟩
      rw [hTT] at hdt hsn
      have HDT := Lib.hid hdt
      have HSN := Lib.hid hsn
      have HFL := Lib.hid hfl
      clear hown hbr hc hx hsn hfl hTT hdt
      go_wp2_with fail
      (with_reducible refine HDT.out.mono ?_)
      rintro e2 w2 ⟨rfl, hb2⟩
      have HB2 := Lib.hid hb2
      have HS2 := Lib.hid hb2.size
      clear hb2
      go_wp2_with (at_builtin
                   refine append_str rfl (.tmp 12) (.tmp 15) rfl w.heap.size (.slice a7 k c7) ((xs.take k).map dayS) rfl ((own_below HOWN.out HB2.out).alloc _) w2.heap.size T rfl (cell_of (heap_new w2 _) rfl) (by rw [HFL.out]; omega) (by have := HS2.out; simp; omega) ?_
                   intro a1 c2 wb hown' hbb
                   rw [HFL.out] at hown' ⊢
                   have HOB := Lib.hid hown'
                   have HBB := Lib.hid (HBR.out.trans (((HB2.out.mono hsr).alloc (by have := HS2.out; omega) _).trans hbb))
                   clear hown' hbb)
      go_roundw
      case rel => exact ⟨k + 1, by omega, by simp, ⟨a1, c2, rfl⟩, by rw [HSN.out]; exact HOB.out, HBB.out⟩
      case measure => simp [intOf]; omega
    · obtain rfl : k = n := by omega
      have htk : xs.take xs.length = xs := List.take_length
      rw [HN.out] at htk
      rw [htk] at HOWN
      have hj := join_any (xs.map dayS) (.slice a7 k c7) w.heap.size ⟨#[44]⟩ wr HOWN.out (by rw [List.length_map, HN.out]; omega) (by
        show (skipsL xs).length ≤ _
        have := HLL.out; have := HN.out; omega)
      have HJ := Lib.hid (show Calls Tryz.prog 104 #[.slice a7 k c7, .string ⟨#[44]⟩] wr fun e w' => e = .returned (.string (mk (skipsL xs))) ∧ Below wr.heap.size wr w' from hj)
      clear hown hbr htk hj hfl
      go_wp2_with fail
      (with_reducible refine HJ.out.mono ?_)
      rintro e3 w3 ⟨rfl, hb3⟩
      have HB3 := Lib.hid (HBR.out.trans (hb3.mono HBR.out.size))
      clear hb3
      go_wp2
      go_ret
      exact ⟨rfl, HB3.out⟩
/-- what 'moves' is asked to give -/
def MovesC (vm : Value) (xs : List (Int × Int)) (w : World) : Prop := ∀ W, Below w.heap.size w W → Calls Tryz.prog 111 #[vm] W fun e w' => e = .returned (.string (mk (movesL xs))) ∧ Below W.heap.size W w'
theorem moves_nil (a : Option Addr) (c : Nat) (w : World) : MovesC (.slice a 0 c) [] w := fun W _ => by
  have HJ := Lib.hid (Tryz.strings_Join_none none 0 ⟨#[44]⟩ W)
  go_enter Tryz.func111, Tryz.ntmps111
  go_wp2_with fail
  refine wp_loop_rounds 1 ?_
  rw [rounds_succ]
  go_wp2_with fail
  (with_reducible refine HJ.out.mono ?_)
  rintro e3 w3 ⟨rfl, rfl⟩
  go_wp2
  go_ret
  exact ⟨rfl, Below.refl _ _⟩
/-- the fields of an event -/
abbrev fTitle : ByteArray := ⟨#[116, 105, 116, 108, 101]⟩
abbrev fStart : ByteArray := ⟨#[115, 116, 97, 114, 116]⟩
abbrev fLong : ByteArray := ⟨#[108, 111, 110, 103]⟩
abbrev fRule : ByteArray := ⟨#[114, 117, 108, 101]⟩
abbrev fSkips : ByteArray := ⟨#[115, 107, 105, 112, 115]⟩
abbrev fMoves : ByteArray := ⟨#[109, 111, 118, 101, 115]⟩
def fieldL : List ByteArray := [fTitle, fStart, fLong, fRule, fSkips, fMoves]
abbrev fieldsV : Array Value := #[.string fTitle, .string fStart, .string fLong, .string fRule, .string fSkips, .string fMoves]
theorem fields_new (w : World) : Calls Tryz.prog 35 #[] w fun e w' => e = .returned (.slice (some ⟨w.heap.size, 0, none⟩) 6 6) ∧ w' = w.alloc (.cells fieldsV 9) := by
  go_enter Tryz.func35, Tryz.ntmps35
  go_wp2
  go_ret
  exact ⟨rfl, rfl⟩
/-- a field's text -/
noncomputable def getL (e : Ev) (f : ByteArray) : ByteArray :=
  if f.toList = [116, 105, 116, 108, 101] then e.ti else if f.toList = [115, 116, 97, 114, 116] then dayS e.st else if f.toList = [108, 111, 110, 103] then mk (Lib.itoa e.lg)
  else if f.toList = [114, 117, 108, 101] then (if bad e.ru = 0 then mk (textL e.ru) else ⟨#[]⟩) else if f.toList = [115, 107, 105, 112, 115] then mk (skipsL e.sk) else if f.toList = [109, 111, 118, 101, 115] then mk (movesL e.mv) else ⟨#[]⟩
end Evt
end Go.Proofs.YtkhkhbeolhhomaaGreatDoor
end

section
/- A rule's text, whatever the rule. -/
namespace Go.Proofs.YtkhkhbeolhhomaaGreatDoor
open Go Go.RowKit Go.Shelf Lmd
attribute [local go_sem] Oper.semAt_some
namespace Rul
open Er Day Cand

theorem text_good (r : Ru) (v : Value) (e : Nat → Addr) (w : World) (he : E4 w e) (hr : Ints.Reads w v r.ds) (hl : r.ds.length < 50000) (hb : bad r = 0) (htab : Lib.TabIs Tryz.prog w "internal/strconv.uint64pow10" .u64 Lib.pow10Tab) :
    Calls Tryz.prog 109 #[.agg #[.string r.fq, .int .i64 r.ev, v, .int .i64 r.ct, .int .i64 r.un]] w fun e' w' => e' = .returned (.string (mk (textL r))) ∧ Below w.heap.size w w' := by
  obtain ⟨h1, h2, h3, h4, h5⟩ := bad_parts hb
  obtain ⟨b1, b2, b3⟩ := bound_parts h2
  have hcu : r.ct = 0 ∨ r.un = -1 := by
    simp only [shapeB, Bool.and_eq_true, Bool.or_eq_true, decide_eq_true_eq] at h4
    exact h4.2
  have hf : r.fq.size ≤ 8 := by
    rcases freqs_mem h1 with h | h | h | h | h <;> rw [h] <;> decide
  exact text_any r v e w he hr hl hb hf b1 b2 b3 hcu h3 htab
set_option maxRecDepth 100000 in
set_option maxHeartbeats 1500000 in
/-- a rule that does not pass has no text -/
theorem text_bad (r : Ru) (v : Value) (e : Nat → Addr) (w : World) (he : E4 w e) (hr : Ints.Reads w v r.ds) (hl : r.ds.length < 50000) (hb : bad r ≠ 0) :
    Calls Tryz.prog 109 #[.agg #[.string r.fq, .int .i64 r.ev, v, .int .i64 r.ct, .int .i64 r.un]] w fun e' w' => e' = .returned (.string ⟨#[]⟩) ∧ Below w.heap.size w w' := by
  obtain ⟨a, cap, rfl⟩ := hr.shape
  obtain ⟨W1, hW1⟩ : ∃ W1, w.alloc (.cells #[.string r.fq, .int .i64 r.ev, .slice a r.ds.length cap, .int .i64 r.ct, .int .i64 r.un] 35) = W1 := ⟨_, rfl⟩
  have hB : Below w.heap.size w W1 := by rw [← hW1]; exact (Below.refl _ w).alloc (Nat.le_refl _) _
  have hc := chk_any r _ e W1 (he.below hB) (hr.below hB) hl
  obtain ⟨q, hq⟩ : ∃ q, bad r = q := ⟨_, rfl⟩
  rw [hq] at hc hb
  have HC := Lib.hid hc
  have HB := Lib.hid hB
  have HW1 := Lib.hid hW1
  obtain ⟨n, hn⟩ : ∃ n, r.ds.length = n := ⟨_, rfl⟩
  rw [hn] at HC HW1 ⊢
  clear hc hB hW1 he hr hl hq hn
  cases q with
  | zero => exact absurd rfl hb
  | succ q =>
    clear hb
    go_enter Tryz.func109, Tryz.ntmps109
    go_wp2_with fail
    rw [HW1.out]
    (with_reducible refine HC.out.mono ?_)
    rintro e1 w2 ⟨rfl, hb2⟩
    have HB2 := Lib.hid (HB.out.trans (hb2.mono HB.out.size))
    clear hb2
    simp only [errV, ev]
    go_wp2
    go_ret
    exact ⟨rfl, HB2.out⟩

theorem text_all (r : Ru) (v : Value) (e : Nat → Addr) (w : World) (he : E4 w e) (hr : Ints.Reads w v r.ds) (hl : r.ds.length < 50000) (htab : Lib.TabIs Tryz.prog w "internal/strconv.uint64pow10" .u64 Lib.pow10Tab) :
    Calls Tryz.prog 109 #[.agg #[.string r.fq, .int .i64 r.ev, v, .int .i64 r.ct, .int .i64 r.un]] w fun e' w' => e' = .returned (.string (if bad r = 0 then mk (textL r) else ⟨#[]⟩)) ∧ Below w.heap.size w w' := by
  by_cases hb : bad r = 0
  · rw [if_pos hb]; exact text_good r v e w he hr hl hb htab
  · rw [if_neg hb]; exact text_bad r v e w he hr hl hb
end Rul
end Go.Proofs.YtkhkhbeolhhomaaGreatDoor
end

section
/- Weekdays; months more. -/
namespace Go.Proofs.YtkhkhbeolhhomaaGreatDoor
open Go.RowKit Lmd
namespace Day
set_option maxHeartbeats 400000 in
theorem week_yes (n : Int) (w : World) (h1 : 0 ≤ n) (h2 : n ≤ 73048) :
    Calls Tryz.prog 259 #[.int .i64 n] w fun e w' => e = .returned (.tuple #[.int .i64 ((n + 5) % 7), .nilIface]) ∧ w = w' := by
  go_enter Tryz.func259, Tryz.ntmps259
  go_wp2_with (go_at_call 82; refine (right_yes _ _ ⟨h1, h2⟩).mono ?_; rintro e w' ⟨rfl, rfl⟩)
  go_ret2
  exact ⟨rfl, rfl⟩
set_option maxHeartbeats 400000 in
theorem week_no (n : Int) (a : Addr) (w : World) (h : ¬ (0 ≤ n ∧ n ≤ 73048)) (hc : w.cell? ⟨3, 0, none⟩ = some (.iface 339 (.pointer (some a)))) :
    Calls Tryz.prog 259 #[.int .i64 n] w fun e w' => e = .returned (.tuple #[.int .i64 0, .iface 339 (.pointer (some a))]) ∧ ∃ k, w' = w.drewN k := by
  go_enter Tryz.func259, Tryz.ntmps259
  go_wp2_with (go_at_call 82; refine (right_no _ _ h).mono ?_; rintro e w' ⟨rfl, rfl⟩)
  go_quiet (fail)
  go_wp2
  go_ret2
  exact ⟨rfl, _, rfl⟩


set_option maxHeartbeats 1000000 in
theorem add_yes (n y m d mo : Int) (w : World) (h : Cal.At n y m d) (m1 : -100000 ≤ mo) (m2 : mo ≤ 100000) (k0 : 0 ≤ Cal.kth y m mo) (ho : Cal.Ok (2000 + Cal.kth y m mo / 12) (Cal.kth y m mo % 12 + 1) d) :
    Calls Tryz.prog 204 #[.int .i64 n, .int .i64 mo] w fun e w' => e = .returned (.tuple #[.int .i64 (Cal.num (2000 + Cal.kth y m mo / 12) (Cal.kth y m mo % 12 + 1) d), .bool true]) ∧ ∃ k, w' = w.drewN k := by
  obtain ⟨a1, a2, a3, a4, a5, a6⟩ := Cal.ok_range h.1
  have k1 : ¬ 12 * (y - 2000) + m - 1 + mo < 0 := by unfold Cal.kth at k0; omega
  have e1 : Cal.kth y m mo = 12 * (y - 2000) + m - 1 + mo := rfl
  rw [e1] at ho ⊢
  clear e1 k0
  go_enter Tryz.func204, Tryz.ntmps204
  go_wp2_with (first | (go_at_call 170; refine (date_at _ _ _ _ _ h).mono ?_; rintro e w' ⟨rfl, rfl⟩) | (go_at_call 226; refine (make_ok _ _ _ _ ho).mono ?_; rintro e w' ⟨rfl, rfl⟩))
  go_quiet (fail)
  go_wp2
  go_ret2
  exact ⟨rfl, _, rfl⟩


set_option maxHeartbeats 1000000 in
theorem add_none (n y m d mo : Int) (ad : Addr) (w : World) (h : Cal.At n y m d) (m1 : -100000 ≤ mo) (m2 : mo ≤ 100000) (hk : Cal.addB (Cal.kth y m mo) d = false)
    (hc : w.cell? ⟨3, 0, none⟩ = some (.iface 339 (.pointer (some ad)))) :
    Calls Tryz.prog 204 #[.int .i64 n, .int .i64 mo] w fun e w' => e = .returned (.tuple #[.int .i64 0, .bool false]) ∧ ∃ k, w' = w.drewN k := by
  obtain ⟨a1, a2, a3, a4, a5, a6⟩ := Cal.ok_range h.1
  have e1 : Cal.kth y m mo = 12 * (y - 2000) + m - 1 + mo := rfl
  rcases Cal.addB_no hk with hk | ⟨hk, ho⟩
  · rw [e1] at hk
    clear e1
    go_enter Tryz.func204, Tryz.ntmps204
    go_wp2_with (go_at_call 170; refine (date_at _ _ _ _ _ h).mono ?_; rintro e w' ⟨rfl, rfl⟩)
    go_ret2
    exact ⟨rfl, 0, rfl⟩
  · rw [e1] at hk ho
    have k1 : ¬ 12 * (y - 2000) + m - 1 + mo < 0 := by omega
    clear e1 hk
    go_enter Tryz.func204, Tryz.ntmps204
    go_wp2_with (first | (go_at_call 170; refine (date_at _ _ _ _ _ h).mono ?_; rintro e w' ⟨rfl, rfl⟩) | (go_at_call 226; refine (make_err _ _ _ ad _ ho hc).mono ?_; rintro e w' ⟨rfl, k, rfl⟩))
    go_quiet (fail)
    go_wp2
    go_ret2
    exact ⟨rfl, _, drewN_add _ _ _⟩

set_option maxHeartbeats 1000000 in
theorem add_off (n mo : Int) (ad : Addr) (w : World) (h : ¬ (0 ≤ n ∧ n ≤ 73048) ∨ (0 ≤ n ∧ n ≤ 73048 ∧ (mo < -100000 ∨ 100000 < mo)))
    (hc : w.cell? ⟨3, 0, none⟩ = some (.iface 339 (.pointer (some ad)))) :
    Calls Tryz.prog 204 #[.int .i64 n, .int .i64 mo] w fun e w' => e = .returned (.tuple #[.int .i64 0, .bool false]) ∧ ∃ k, w' = w.drewN k := by
  rcases h with h | ⟨h1, h2, h⟩
  · go_enter Tryz.func204, Tryz.ntmps204
    go_wp2_with (go_at_call 170; refine (date_no _ ad _ h hc).mono ?_; rintro e w' ⟨rfl, k, rfl⟩)
    go_ret2
    exact ⟨rfl, _, rfl⟩
  · obtain ⟨y, m, d, ha⟩ := Cal.at_exists n h1 h2
    rcases h with h | h
    all_goals
      go_enter Tryz.func204, Tryz.ntmps204
      go_wp2_with (go_at_call 170; refine (date_at _ _ _ _ _ ha).mono ?_; rintro e w' ⟨rfl, rfl⟩)
      go_ret2
      exact ⟨rfl, 0, rfl⟩

/-- months more, at a day: whatever they lead to -/
theorem add_any (n y m d mo : Int) (ad : Addr) (w : World) (h : Cal.At n y m d) (m1 : -100000 ≤ mo) (m2 : mo ≤ 100000)
    (hc : w.cell? ⟨3, 0, none⟩ = some (.iface 339 (.pointer (some ad)))) :
    Calls Tryz.prog 204 #[.int .i64 n, .int .i64 mo] w fun e w' => e = .returned (.tuple #[.int .i64 (Cal.addV (Cal.kth y m mo) d), .bool (Cal.addB (Cal.kth y m mo) d)]) ∧ ∃ k, w' = w.drewN k := by
  cases hk : Cal.addB (Cal.kth y m mo) d with
  | true =>
    have := Cal.addB_yes hk
    rw [Cal.addV_yes hk]
    exact add_yes n y m d mo w h m1 m2 this.1 this.2
  | false =>
    rw [Cal.addV_no hk]
    exact add_none n y m d mo ad w h m1 m2 hk hc
end Day
end Go.Proofs.YtkhkhbeolhhomaaGreatDoor
end
