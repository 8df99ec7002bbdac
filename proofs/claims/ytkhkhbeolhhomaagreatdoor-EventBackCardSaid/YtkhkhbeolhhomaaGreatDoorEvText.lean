/- package event: Fields, Get, Text. -/
import Derived.Test.YtkhkhbeolhhomaaGreatDoorEvLists
import Derived.Test.YtkhkhbeolhhomaaGreatDoorNumPlain
namespace Go.Proofs.YtkhkhbeolhhomaaGreatDoor
open Go Go.RowKit Go.Shelf Lmd
attribute [local go_sem] Oper.semAt_some
namespace Evt
open Rul Day Cand Er

/-- what a walk of texts asks of a world: the errors and the table of tens -/
structure Tb (w : World) (er : Nat → Addr) : Prop where
  errs : E7 w er
  tab : Lib.TabIs Tryz.prog w "internal/strconv.uint64pow10" .u64 Lib.pow10Tab
theorem Tb.below {w w' : World} {er : Nat → Addr} (h : Tb w er) (hb : Below w.heap.size w w') : Tb w' er :=
  ⟨h.errs.below hb, Frame.tab_below (g := 15) (by kernel_rfl) hb h.tab⟩

/-- a day's text; of no day: none -/
noncomputable def dayL (n : Int) : List UInt8 := open Classical in if 0 ≤ n ∧ n ≤ 73048 then dayT n else []
noncomputable def dayS (n : Int) : ByteArray := mk (dayL n)
theorem dayL_len (n : Int) : (dayL n).length ≤ 10 := by
  unfold dayL
  split
  · rename_i h
    obtain ⟨y, m, d, ha⟩ := Cal.at_exists n h.1 h.2
    rw [dayT_at ha]
    exact Nat.le_refl _
  · exact Nat.zero_le _
theorem dayText_any (n : Int) (er : Nat → Addr) (w : World) (h : Tb w er) :
    Calls Tryz.prog 107 #[.int .i64 n] w fun e w' => e = .returned (.string (dayS n)) ∧ Below w.heap.size w w' := by
  unfold dayS dayL
  by_cases hd : 0 ≤ n ∧ n ≤ 73048
  · rw [if_pos hd]
    obtain ⟨y, m, d, ha⟩ := Cal.at_exists n hd.1 hd.2
    rw [dayT_at ha]
    exact text_at n y m d w ha h.tab
  · rw [if_neg hd]
    exact (text_no n (er 1) w hd h.errs.s1.cell).mono fun _ _ ⟨h1, k, h2⟩ => ⟨h1, by rw [h2]; exact below_drewN (Below.refl _ _) k⟩

/-- texts of a row of one's own, joined -/
theorem join_any (xs : List ByteArray) (v : Value) (base : Nat) (sep : ByteArray) (w : World) (h : w.ownsRow base 9 1 v xs.length (cellsS xs)) (hl : xs.length ≤ 1000000) (hj : (Lib.join (xs.map (·.data.toList)) sep.data.toList).length ≤ 1000000000) :
    Calls Tryz.prog 104 #[v, .string sep] w fun e w' => e = .returned (.string (mk (Lib.join (xs.map (·.data.toList)) sep.data.toList))) ∧ Below w.heap.size w w' := by
  rcases reads_ownS h rfl with ⟨rfl, rfl⟩ | ⟨g, cap, rfl, h2, h3, h4⟩
  · exact (Tryz.strings_Join_none none 0 sep w).mono fun _ _ ⟨h1, h2⟩ => ⟨by rw [h1]; rfl, by rw [h2]; exact Below.refl _ _⟩
  · exact Tryz.strings_Join g 0 cap xs sep w h4 h3 (by omega) h2 (by omega)

theorem join_len (sep : List UInt8) (n : Nat) : ∀ xs : List (List UInt8), (∀ x ∈ xs, x.length ≤ n) → (Lib.join xs sep).length ≤ (n + sep.length) * xs.length
  | [], _ => by simp [Lib.join]
  | [x], h => by
    have := h x (by simp)
    simp [Lib.join]; omega
  | x :: y :: t, h => by
    have h1 := h x (by simp)
    have h2 := join_len sep n (y :: t) (fun z hz => h z (by simp [hz]))
    have e : Lib.join (x :: y :: t) sep = x ++ sep ++ Lib.join (y :: t) sep := by simp [Lib.join]
    rw [e]
    simp only [List.length_append, List.length_cons] at h2 ⊢
    have e2 : (n + sep.length) * (t.length + 1 + 1) = (n + sep.length) * (t.length + 1) + (n + sep.length) := by rw [Nat.mul_add (n + sep.length) (t.length + 1) 1, Nat.mul_one]
    omega
noncomputable def skipsL (xs : List Int) : List UInt8 := Lib.join ((xs.map dayS).map (·.data.toList)) [44]
noncomputable def moveS (m : Int × Int) : ByteArray := mk (dayL m.1 ++ [62] ++ dayL m.2)
noncomputable def movesL (xs : List (Int × Int)) : List UInt8 := Lib.join ((xs.map moveS).map (·.data.toList)) [44]
theorem mk_list (l : List UInt8) : (mk l).data.toList = l := rfl
theorem skipsL_len (xs : List Int) : (skipsL xs).length ≤ 11 * xs.length := by
  have := join_len [44] 10 ((xs.map dayS).map (·.data.toList)) (fun x hx => by
    simp only [List.map_map, List.mem_map] at hx
    obtain ⟨d, _, rfl⟩ := hx
    show (mk (dayL d)).data.toList.length ≤ 10
    rw [mk_list]; exact dayL_len d)
  simpa [skipsL] using this
theorem movesL_len (xs : List (Int × Int)) : (movesL xs).length ≤ 22 * xs.length := by
  have := join_len [44] 21 ((xs.map moveS).map (·.data.toList)) (fun x hx => by
    simp only [List.map_map, List.mem_map] at hx
    obtain ⟨m, _, rfl⟩ := hx
    show (mk _).data.toList.length ≤ 21
    rw [mk_list]
    have h1 := dayL_len m.1
    have h2 := dayL_len m.2
    simp only [List.length_append, List.length_cons, List.length_nil]; omega)
  simpa [movesL] using this

set_option maxRecDepth 100000 in
set_option maxHeartbeats 2000000 in
theorem skips_any (xs : List Int) (v : Value) (er : Nat → Addr) (w : World) (hT : Tb w er) (hr : Ints.Reads w v xs) (hl : xs.length ≤ 1000000) :
    Calls Tryz.prog 110 #[v] w fun e w' => e = .returned (.string (mk (skipsL xs))) ∧ Below w.heap.size w w' := by
  obtain ⟨a, cap, rfl⟩ := hr.shape
  have hll := skipsL_len xs
  have HR := Lib.hid hr
  have HT := Lib.hid hT
  have HLL := Lib.hid hll
  obtain ⟨n, hn⟩ : ∃ n, xs.length = n := ⟨_, rfl⟩
  have HN := Lib.hid hn
  rw [hn] at hl HR ⊢
  clear hr hT hn hll
  go_enter Tryz.func110, Tryz.ntmps110
  go_wp2_with fail
  go_loopw [3, 8] (fun v3 p wr => ∃ k : Nat, k ≤ n ∧ p = .int .i64 (k : Int) ∧ (∃ a c, v3 = .slice a k c) ∧ wr.ownsRow w.heap.size 9 1 v3 ((xs.take k).map dayS).length (cellsS ((xs.take k).map dayS)) ∧ Below w.heap.size w wr) (fun _ p _ => n - (intOf p).toNat)
  case atStart => exact ⟨0, Nat.zero_le _, rfl, ⟨none, 0, rfl⟩, ⟨by simp [cellsS], .inl ⟨rfl, rfl⟩⟩, Below.refl _ _⟩
  case round =>
    obtain ⟨k, hk, rfl, ⟨a7, c7, rfl⟩, hown, hbr⟩ := hrel
    have hsr := hbr.size
    have HOWN := Lib.hid hown
    have HBR := Lib.hid hbr
    have hfl : ((xs.take k).map dayS).length = k := by rw [List.length_map, List.length_take, HN.out]; omega
    by_cases hlt : k < n
    · obtain ⟨-, b, o, ha9, hc⟩ := (HR.out.below hbr).at (by intro h; have := HN.out; rw [h] at this; simp at this; omega)
      subst ha9
      have c1 := hc k (by rw [HN.out]; exact hlt)
      have hsn : (xs.take (k + 1)).map dayS = (xs.take k).map dayS ++ [dayS (Ints.el xs k)] := by
        rw [List.take_succ_eq_append_getElem (by rw [HN.out]; exact hlt), List.map_append, Ints.el_lt (by rw [HN.out]; exact hlt)]; rfl
      obtain ⟨x, hx⟩ : ∃ x, Ints.el xs k = x := ⟨_, rfl⟩
      rw [hx] at c1 hsn
      have hdt := dayText_any x er wr (HT.out.below hbr)
      obtain ⟨T, hTT⟩ : ∃ T, dayS x = T := ⟨_, rfl⟩
      rw [hTT] at hdt hsn
      have HDT := Lib.hid hdt
      have HSN := Lib.hid hsn
      have HFL := Lib.hid hfl
      clear hown hbr hc hx hsn hfl hTT hdt
      go_wp2_with fail
      (with_reducible refine HDT.out.mono ?_)
      rintro e2 w2 ⟨rfl, hb2⟩
      have HB2 := Lib.hid hb2
      have HS2 := Lib.hid hb2.size
      clear hb2
      go_wp2_with (at_builtin
                   refine append_str rfl (.tmp 12) (.tmp 15) rfl w.heap.size (.slice a7 k c7) ((xs.take k).map dayS) rfl ((own_below HOWN.out HB2.out).alloc _) w2.heap.size T rfl (cell_of (heap_new w2 _) rfl) (by rw [HFL.out]; omega) (by have := HS2.out; simp; omega) ?_
                   intro a1 c2 wb hown' hbb
                   rw [HFL.out] at hown' ⊢
                   have HOB := Lib.hid hown'
                   have HBB := Lib.hid (HBR.out.trans (((HB2.out.mono hsr).alloc (by have := HS2.out; omega) _).trans hbb))
                   clear hown' hbb)
      go_roundw
      case rel => exact ⟨k + 1, by omega, by simp, ⟨a1, c2, rfl⟩, by rw [HSN.out]; exact HOB.out, HBB.out⟩
      case measure => simp [intOf]; omega
    · obtain rfl : k = n := by omega
      have htk : xs.take xs.length = xs := List.take_length
      rw [HN.out] at htk
      rw [htk] at HOWN
      have hj := join_any (xs.map dayS) (.slice a7 k c7) w.heap.size ⟨#[44]⟩ wr HOWN.out (by rw [List.length_map, HN.out]; omega) (by
        show (skipsL xs).length ≤ _
        have := HLL.out; have := HN.out; omega)
      have HJ := Lib.hid (show Calls Tryz.prog 104 #[.slice a7 k c7, .string ⟨#[44]⟩] wr fun e w' => e = .returned (.string (mk (skipsL xs))) ∧ Below wr.heap.size wr w' from hj)
      clear hown hbr htk hj hfl
      go_wp2_with fail
      (with_reducible refine HJ.out.mono ?_)
      rintro e3 w3 ⟨rfl, hb3⟩
      have HB3 := Lib.hid (HBR.out.trans (hb3.mono HBR.out.size))
      clear hb3
      go_wp2
      go_ret
      exact ⟨rfl, HB3.out⟩
/-- what 'moves' is asked to give -/
def MovesC (vm : Value) (xs : List (Int × Int)) (w : World) : Prop := ∀ W, Below w.heap.size w W → Calls Tryz.prog 111 #[vm] W fun e w' => e = .returned (.string (mk (movesL xs))) ∧ Below W.heap.size W w'
theorem moves_nil (a : Option Addr) (c : Nat) (w : World) : MovesC (.slice a 0 c) [] w := fun W _ => by
  have HJ := Lib.hid (Tryz.strings_Join_none none 0 ⟨#[44]⟩ W)
  go_enter Tryz.func111, Tryz.ntmps111
  go_wp2_with fail
  refine wp_loop_rounds 1 ?_
  rw [rounds_succ]
  go_wp2_with fail
  (with_reducible refine HJ.out.mono ?_)
  rintro e3 w3 ⟨rfl, rfl⟩
  go_wp2
  go_ret
  exact ⟨rfl, Below.refl _ _⟩
/-- the fields of an event -/
abbrev fTitle : ByteArray := ⟨#[116, 105, 116, 108, 101]⟩
abbrev fStart : ByteArray := ⟨#[115, 116, 97, 114, 116]⟩
abbrev fLong : ByteArray := ⟨#[108, 111, 110, 103]⟩
abbrev fRule : ByteArray := ⟨#[114, 117, 108, 101]⟩
abbrev fSkips : ByteArray := ⟨#[115, 107, 105, 112, 115]⟩
abbrev fMoves : ByteArray := ⟨#[109, 111, 118, 101, 115]⟩
def fieldL : List ByteArray := [fTitle, fStart, fLong, fRule, fSkips, fMoves]
abbrev fieldsV : Array Value := #[.string fTitle, .string fStart, .string fLong, .string fRule, .string fSkips, .string fMoves]
theorem fields_new (w : World) : Calls Tryz.prog 35 #[] w fun e w' => e = .returned (.slice (some ⟨w.heap.size, 0, none⟩) 6 6) ∧ w' = w.alloc (.cells fieldsV 9) := by
  go_enter Tryz.func35, Tryz.ntmps35
  go_wp2
  go_ret
  exact ⟨rfl, rfl⟩
/-- a field's text -/
noncomputable def getL (e : Ev) (f : ByteArray) : ByteArray :=
  if f.toList = [116, 105, 116, 108, 101] then e.ti else if f.toList = [115, 116, 97, 114, 116] then dayS e.st else if f.toList = [108, 111, 110, 103] then mk (Lib.itoa e.lg)
  else if f.toList = [114, 117, 108, 101] then (if bad e.ru = 0 then mk (textL e.ru) else ⟨#[]⟩) else if f.toList = [115, 107, 105, 112, 115] then mk (skipsL e.sk) else if f.toList = [109, 111, 118, 101, 115] then mk (movesL e.mv) else ⟨#[]⟩
end Evt
end Go.Proofs.YtkhkhbeolhhomaaGreatDoor
