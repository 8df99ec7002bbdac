/- rule.names, rule.Same, rule.Text. -/
import Derived.Test.YtmlndamkcipebaaDoorRuleCheck
import Derived.Test.YtmlndamkcipebaaDoorOwnRule
import Derived.Test.YtmlndamkcipebaaDoorDayText
import Derived.Lib.ItoaLen
import Derived.Maps.AppendAt
namespace Go.Proofs.YtmlndamkcipebaaDoor
open Go Go.RowKit Go.Shelf Lmd
namespace Cand
theorem row_below' {w w' : World} {b : Nat} {o : Obj} (h : w.heap[b]? = some o) (hb : Below w.heap.size w w') : w'.heap[b]? = some o := by
  rw [hb.block b (Array.getElem?_eq_some_iff.1 h).1]; exact h
theorem cells5' {w : World} {b : Nat} {a0 a1 a2 a3 a4 : Value} {t : TypeId} (h : w.heap[b]? = some (.cells #[a0, a1, a2, a3, a4] t (0, 0))) :
    w.cell? ⟨b, 0, none⟩ = some a0 ∧ w.cell? ⟨b, 1, none⟩ = some a1 ∧ w.cell? ⟨b, 2, none⟩ = some a2 ∧ w.cell? ⟨b, 3, none⟩ = some a3 ∧ w.cell? ⟨b, 4, none⟩ = some a4 ∧ (w.frozen? ⟨b, 3, none⟩ = false ∧ w.frozen? ⟨b, 4, none⟩ = false ∧ w.frozen? ⟨b, 1, none⟩ = false) := by
  simp [World.cell?, World.frozen?, h]
end Cand
namespace Rul
open Er Day

abbrev namesV : Array Value := #[.string ⟨#[109, 111]⟩, .string ⟨#[116, 117]⟩, .string ⟨#[119, 101]⟩, .string ⟨#[116, 104]⟩, .string ⟨#[102, 114]⟩, .string ⟨#[115, 97]⟩, .string ⟨#[115, 117]⟩]
def nameL : List ByteArray := [⟨#[109, 111]⟩, ⟨#[116, 117]⟩, ⟨#[119, 101]⟩, ⟨#[116, 104]⟩, ⟨#[102, 114]⟩, ⟨#[115, 97]⟩, ⟨#[115, 117]⟩]
def nameOf (k : Int) : ByteArray := nameL.getD k.toNat ByteArray.empty
theorem names_new (w : World) : Calls Tryd.prog 80 #[] w fun e w' => e = .returned (.slice (some ⟨w.heap.size, 0, none⟩) 7 7) ∧ w' = w.alloc (.cells namesV 9) := by
  go_enter Tryd.func80, Tryd.ntmps80
  go_wp2
  go_ret
  exact ⟨rfl, rfl⟩
theorem names_cell (w : World) (k : Int) (h0 : 0 ≤ k) (h6 : k ≤ 6) : (w.alloc (.cells namesV 9)).cell? ⟨w.heap.size, 0 + k.toNat, none⟩ = some (.string (nameOf k)) := by
  have h := heap_new w (.cells namesV 9)
  have hk : k = 0 ∨ k = 1 ∨ k = 2 ∨ k = 3 ∨ k = 4 ∨ k = 5 ∨ k = 6 := by omega
  rcases hk with rfl | rfl | rfl | rfl | rfl | rfl | rfl <;> exact cell_of h rfl

/-- are two rules one -/
def sameB (a b : Ru) : Bool := decide (a.fq = b.fq) && decide (a.ev = b.ev) && decide (a.ct = b.ct) && decide (a.un = b.un) && decide (a.ds = b.ds)

/-- a day's text -/
noncomputable def dayT (n : Int) : List UInt8 :=
  open Classical in if h : ∃ t, ∃ y m d, Cal.At n y m d ∧ t = Cal.text y m d then Classical.choose h else []
theorem dayT_at {n y m d : Int} (h : Cal.At n y m d) : dayT n = Cal.text y m d := by
  have hex : ∃ t, ∃ y m d, Cal.At n y m d ∧ t = Cal.text y m d := ⟨_, y, m, d, h, rfl⟩
  unfold dayT
  rw [dif_pos hex]
  obtain ⟨y', m', d', h', e⟩ := Classical.choose_spec hex
  obtain ⟨rfl, rfl, rfl⟩ := Cal.at_unique h h'
  exact e
/-- a rule's text -/
noncomputable def headL (r : Ru) : List UInt8 := r.fq.data.toList ++ [32] ++ Lib.itoa r.ev
noncomputable def daysL (r : Ru) : List UInt8 := if r.ds = [] then [] else [32] ++ Lib.join ((r.ds.map nameOf).map (·.data.toList)) [44]
noncomputable def countL (r : Ru) : List UInt8 := if 0 < r.ct then [32, 99, 111, 117, 110, 116, 32] ++ Lib.itoa r.ct else []
noncomputable def untilL (r : Ru) : List UInt8 := if r.un ≠ -1 then [32, 117, 110, 116, 105, 108, 32] ++ dayT r.un else []
noncomputable def textL (r : Ru) : List UInt8 := if r.fq.toList = [111, 110, 99, 101] then r.fq.data.toList else headL r ++ daysL r ++ countL r ++ untilL r

theorem itoa_b (n : Int) (h0 : -9223372036854775808 ≤ n) (h1 : n ≤ 9223372036854775807) (w : World) (htab : Lib.TabIs Tryd.prog w "internal/strconv.uint64pow10" .u64 Lib.pow10Tab) :
    Calls Tryd.prog 60 #[.int .i64 n] w fun e w' => e = .returned (.string ⟨(Lib.itoa n).toArray⟩) ∧ Below w.heap.size w w' := by
  refine (Tryd.strconv_Itoa n h0 h1 w htab).mono ?_
  rintro e w' ⟨rfl, k, os, rfl⟩
  exact ⟨rfl, below_grow _ _ _⟩

theorem string_info : (Tryd.prog.info? 9).map (fun i => (i.zero, i.size, i.bytes)) = some (some (.string ⟨#[]⟩), 1, 16) := by kernel_rfl
def cellsS (xs : List ByteArray) : List Value := xs.map .string
theorem cellsS_len (xs : List ByteArray) : (cellsS xs).length = xs.length := by simp [cellsS]
theorem reads_ownS {w : World} {base : Nat} {e : TypeId} {v : Value} {n : Nat} {xs : List ByteArray} (h : w.ownsRow base e 1 v n (cellsS xs)) (hn : n = xs.length) :
    (xs = [] ∧ v = .slice none 0 0) ∨ ∃ g cap, v = .slice (some ⟨g, 0, none⟩) xs.length cap ∧ xs.length ≤ cap ∧ g < w.heap.size ∧ ∀ (j : Nat) x, xs[j]? = some x → w.cell? ⟨g, 0 + j, none⟩ = some (.string x) := by
  subst hn
  rcases h.2 with ⟨rfl, h0⟩ | ⟨g, cap, cur, rfl, _, hh, hc, _, _, ht⟩
  · exact .inl ⟨List.length_eq_zero_iff.1 h0, rfl⟩
  · refine .inr ⟨g, cap, rfl, hc, (Array.getElem?_eq_some_iff.1 hh).1, fun j x hx => ?_⟩
    have hj : j < xs.length := (List.getElem?_eq_some_iff.1 hx).1
    have h1 : (cellsS xs)[j]? = some (.string x) := by simp [cellsS, hx]
    rw [← ht, Nat.mul_one, List.getElem?_take_of_lt hj] at h1
    simp only [World.cell?, hh, Nat.zero_add]
    simpa using h1
theorem nameOf_len (k : Int) : (nameOf k).data.toList.length ≤ 2 := by
  unfold nameOf
  have : k.toNat = 0 ∨ k.toNat = 1 ∨ k.toNat = 2 ∨ k.toNat = 3 ∨ k.toNat = 4 ∨ k.toNat = 5 ∨ k.toNat = 6 ∨ 7 ≤ k.toNat := by omega
  rcases this with h | h | h | h | h | h | h | h
  all_goals first | (rw [h]; decide) | skip
  rw [List.getD_eq_getElem?_getD, List.getElem?_eq_none (by simp [nameL]; omega)]
  decide

theorem join_le (sep : List UInt8) (hs : sep.length ≤ 1) : ∀ xs : List (List UInt8), (∀ x ∈ xs, x.length ≤ 2) → (Lib.join xs sep).length ≤ 3 * xs.length := by
  intro xs
  unfold Lib.join
  induction xs with
  | nil => intro _; simp
  | cons x xs ih =>
    intro h
    have hx := h x (by simp)
    have := ih (fun z hz => h z (by simp [hz]))
    cases xs with
    | nil => simp at *; omega
    | cons y ys =>
      rw [List.intercalate_cons_cons]
      simp only [List.length_append, List.length_cons] at *
      omega

theorem str_mk (s : ByteArray) : s = ⟨s.data.toList.toArray⟩ := by cases s; simp
theorem head_cat (r : Ru) : r.fq ++ ⟨#[32]⟩ ++ ⟨(Lib.itoa r.ev).toArray⟩ = (⟨(headL r).toArray⟩ : ByteArray) := by
  unfold headL
  rw [← cat, ← cat, ← str_mk]
theorem fin_val {a b : ByteArray} (h : a = b) : Value.string a = Value.string b := by rw [h]
theorem ret_val {a b : ByteArray} (h : a = b) : Ending.returned (.string a) = .returned (.string b) := by rw [h]
set_option maxRecDepth 100000 in
set_option maxHeartbeats 8000000 in
theorem text_any (r : Ru) (v : Value) (e : Nat → Addr) (w : World) (he : E4 w e) (hr : Ints.Reads w v r.ds) (hl : r.ds.length < 1000) (hbad : bad r = 0) (hf : r.fq.size ≤ 8) (hev : 1 ≤ r.ev ∧ r.ev ≤ 100) (hct : 0 ≤ r.ct ∧ r.ct ≤ 1000) (hun : -1 ≤ r.un ∧ r.un ≤ 73048) (hcu : r.ct = 0 ∨ r.un = -1) (hdb : daysB r.ds = true)
    (htab : Lib.TabIs Tryd.prog w "internal/strconv.uint64pow10" .u64 Lib.pow10Tab) :
    Calls Tryd.prog 43 #[.agg #[.string r.fq, .int .i64 r.ev, v, .int .i64 r.ct, .int .i64 r.un]] w fun e' w' => e' = .returned (.string ⟨(textL r).toArray⟩) ∧ Below w.heap.size w w' := by
  obtain ⟨i0, hi0, hz0, hz1, hz2⟩ := info_parts string_info
  obtain ⟨a, cap, rfl⟩ := hr.shape
  obtain ⟨W1, hW1⟩ : ∃ W1, w.alloc (.cells #[.string r.fq, .int .i64 r.ev, .slice a r.ds.length cap, .int .i64 r.ct, .int .i64 r.un] 67) = W1 := ⟨_, rfl⟩
  have hB : Below w.heap.size w W1 := by rw [← hW1]; exact (Below.refl _ w).alloc (Nat.le_refl _) _
  have hz1' : W1.heap.size = w.heap.size + 1 := by rw [← hW1]; simp
  have hx := heap_new w (.cells #[.string r.fq, .int .i64 r.ev, .slice a r.ds.length cap, .int .i64 r.ct, .int .i64 r.un] 67)
  rw [hW1] at hx
  have hc : Calls Tryd.prog 41 #[.agg #[.string r.fq, .int .i64 r.ev, .slice a r.ds.length cap, .int .i64 r.ct, .int .i64 r.un]] W1 fun e' w1 => e' = .returned .nilIface ∧ Below W1.heap.size W1 w1 := by
    have := check_any r _ e W1 (he.below hB) (hr.below hB) hl
    rw [hbad] at this
    exact this
  have HC := Lib.hid hc
  have HX := Lib.hid hx
  have HB := Lib.hid hB
  have HR := Lib.hid hr
  have htab1 : ∀ W, Below w.heap.size w W → Lib.TabIs Tryd.prog W "internal/strconv.uint64pow10" .u64 Lib.pow10Tab := fun W h => Frame.tab_below (g := 12) (by kernel_rfl) h htab
  have HTAB := Lib.hid htab1
  clear hc he hr hbad htab htab1
  have hr5 : ∀ w2 : World, Below W1.heap.size W1 w2 → w2.heap[w.heap.size]? = some (.cells #[.string r.fq, .int .i64 r.ev, .slice a r.ds.length cap, .int .i64 r.ct, .int .i64 r.un] 67) := fun w2 h => by rw [h.block _ (by omega)]; exact HX.out
  have HR5 := Lib.hid hr5
  clear hr5
  obtain ⟨q0, q1, q2, q3, q4, _⟩ := Cand.cells5' HX.out
  clear hx
  by_cases ho : r.fq.toList = [111, 110, 99, 101]
  · have ht : textL r = r.fq.data.toList := by unfold textL; rw [if_pos ho]
    rw [ht]
    go_enter Tryd.func43, Tryd.ntmps43
    go_wp2_with fail
    refine HC.out.mono ?_
    rintro e1 w2 ⟨rfl, hb2⟩
    obtain ⟨q0, q1, q2, q3, q4, _⟩ := Cand.cells5' (HR5.out w2 hb2)
    have HB2 := Lib.hid (HB.out.trans (hb2.mono (by omega)))
    clear hb2
    go_wp2
    go_ret
    exact ⟨by simp, HB2.out⟩
  have ho' : (r.fq.toList == [111, 110, 99, 101]) = false := by simpa using ho
  have ht : textL r = headL r ++ daysL r ++ countL r ++ untilL r := by unfold textL; rw [if_neg ho]
  rw [ht]
  obtain ⟨DL, hDL⟩ : ∃ DL, daysL r = DL := ⟨_, rfl⟩
  obtain ⟨CL, hCL⟩ : ∃ CL, countL r = CL := ⟨_, rfl⟩
  obtain ⟨UL, hUL⟩ : ∃ UL, untilL r = UL := ⟨_, rfl⟩
  rw [hDL, hCL, hUL]
  have HDL := Lib.hid hDL
  have HCL := Lib.hid hCL
  have HUL := Lib.hid hUL
  clear ht ho hDL hCL hUL
  have hli := Lib.itoa_length_le r.ev (by omega) (by omega)
  have hlc := Lib.itoa_length_le r.ct (by omega) (by omega)
  go_enter Tryd.func43, Tryd.ntmps43
  go_wp2_with fail
  refine HC.out.mono ?_
  rintro e1 w2 ⟨rfl, hb2⟩
  obtain ⟨q0, q1, q2, q3, q4, _⟩ := Cand.cells5' (HR5.out w2 hb2)
  have hbw2 := HB.out.trans (hb2.mono (by omega))
  have htab2 := HTAB.out w2 hbw2
  have HB2 := Lib.hid hb2
  have HBW2 := Lib.hid hbw2
  have HT2 := Lib.hid htab2
  clear hb2 hbw2 htab2 HC
  go_upto_region 5 with fail
  go_cut [3] from 10 (fun s3 wc => s3 = .string ⟨(headL r).toArray⟩ ∧ Below w2.heap.size w2 wc)
  case first =>
    go_region_with (go_at_call 60; refine (itoa_b r.ev (by omega) (by omega) _ (by exact HT2.out)).mono ?_; rintro e1 w3 ⟨rfl, hb3⟩; obtain ⟨z0, z1, z2, z3, z4, _⟩ := Cand.cells5' (Cand.row_below' (show (w2.drewN 1).heap[w.heap.size]? = _ from HR5.out w2 HB2.out) hb3))
    all_goals go_wp2_with fail
    all_goals go_meet
    all_goals exact ⟨fin_val (head_cat r), (below_draw (Below.refl _ w2) 1).trans hb3⟩
  case rest =>
    obtain ⟨rfl, hb5⟩ := hcut
    have hb15 := HB2.out.trans (hb5.mono HB2.out.size)
    have hbwc := HBW2.out.trans (hb5.mono HBW2.out.size)
    have hs15 := hb15.size
    have hrc := HR.out.below hbwc
    obtain ⟨q0, q1, q2, q3, q4, _⟩ := Cand.cells5' (HR5.out wc hb15)
    have HB15 := Lib.hid hb15
    have HBWC := Lib.hid hbwc
    have HRC := Lib.hid hrc
    have hdin := hdb
    clear hb5 hb15 hbwc hrc HT2 HB2 HBW2 hdb
    have HDB := Lib.hid hdin
    clear hdin
    obtain ⟨hd, hhd⟩ : ∃ hd, headL r = hd := ⟨_, rfl⟩
    have hlh : hd.length ≤ 40 := by
      rw [← hhd]; unfold headL
      have : r.fq.data.toList.length = r.fq.size := by simp
      simp only [List.length_append, List.length_cons, List.length_nil]
      omega
    rw [hhd]
    have HHD := Lib.hid hhd
    clear hhd
    go_wp2_with fail
    go_loopw [4, 25] (fun v4 p wr => ∃ k : Nat, k ≤ r.ds.length ∧ p = .int .i64 (k : Int) ∧ (∃ a c, v4 = .slice a k c) ∧ wr.ownsRow wc.heap.size 9 1 v4 k (cellsS ((r.ds.take k).map nameOf)) ∧ Below wc.heap.size wc wr) (fun _ p _ => r.ds.length - (intOf p).toNat)
    case atStart => exact ⟨0, Nat.zero_le _, rfl, ⟨none, 0, rfl⟩, ⟨by simp [cellsS], .inl ⟨rfl, rfl⟩⟩, Below.refl _ _⟩
    case round =>
      obtain ⟨k, hk, rfl, ⟨a7, c7, rfl⟩, hown, hbr⟩ := hrel
      have hsr := hbr.size
      have HOWN := Lib.hid hown
      have HBR := Lib.hid hbr
      by_cases hlt : k < r.ds.length
      · obtain ⟨_, b, o, ha9, hc⟩ := (HRC.out.below hbr).at (by intro h; rw [h] at hlt; exact absurd hlt (Nat.not_lt_zero _))
        subst ha9
        have c1 := hc k hlt
        obtain ⟨y, hy⟩ : ∃ y, Ints.el r.ds k = y := ⟨_, rfl⟩
        rw [hy] at c1
        have hyb : 0 ≤ y ∧ y ≤ 6 := by
          have := HDB.out
          unfold daysB at this
          rw [List.all_eq_true] at this
          have h2 := this y (by rw [← hy, Ints.el_lt hlt]; exact List.getElem_mem _)
          simpa [inB] using h2
        have htk : (r.ds.take (k + 1)).map nameOf = (r.ds.take k).map nameOf ++ [nameOf y] := by
          rw [List.take_succ_eq_append_getElem hlt, List.map_append, ← hy, Ints.el_lt hlt]; rfl
        obtain ⟨j, rfl⟩ : ∃ j : Nat, y = (j : Int) := ⟨y.toNat, by omega⟩
        have hnc := names_cell wr (j : Int) hyb.1 hyb.2
        simp only [Int.toNat_natCast, Nat.zero_add] at hnc
        obtain ⟨nm, hnm⟩ : ∃ nm, nameOf (j : Int) = nm := ⟨_, rfl⟩
        rw [hnm] at hnc htk
        have hj7 : (j : Int) < 7 := by omega
        have HTK := Lib.hid htk
        clear hown hbr hc htk hy hnm hyb
        go_wp2_with (first
          | (go_at_call 80; refine (names_new _).mono ?_; rintro e1 w3 ⟨rfl, rfl⟩)
          | (at_builtin
             refine wpList_append_own _ rfl (.tmp 29) (.tmp 34) _ rfl wc.heap.size 9 i0 _ 1 16 Tryd.underlying22 hi0 hz0 hz1 hz2 rfl (by omega) (.slice a7 k c7) k (cellsS ((r.ds.take k).map nameOf)) rfl
               ((HOWN.out.alloc _).alloc _) ⟨wr.heap.size + 1, 0, none⟩ 1 1 [.string nm] rfl rfl
               (fun j u hu => by
                 cases j with
                 | zero =>
                   simp at hu; subst hu
                   have h := heap_new (wr.alloc (.cells namesV 9)) (.cells #[.string nm] 9)
                   rw [World.size_alloc] at h
                   exact cell_of h rfl
                 | succ j => simp at hu) (fun u hu => by simp at hu; subst hu; rfl) (by simp only [maxLen]; omega) (by omega) (by simp; omega) ?_
             intro v1 wb hown' hg hnil
             have hbb : Below wc.heap.size wr wb := (((Below.refl _ wr).alloc hsr _).alloc (by simp; omega) _).grown hg (by simp; omega) (fun j ej => by
               rcases HOWN.out.2 with ⟨h1, _⟩ | ⟨g, cap, cur, h1, h2, _⟩
               · rw [h1] at ej; simp [Value.ownBlock] at ej
               · rw [h1] at ej; obtain rfl : g = j := by simpa [Value.ownBlock] using ej
                 exact h2)
             obtain ⟨a1, c2, e1⟩ : ∃ a1 c2, v1 = .slice a1 (k + 1) c2 := by
               rcases hown'.2 with ⟨_, h2⟩ | ⟨g, cap, cur, h1, _⟩
               · omega
               · exact ⟨_, _, h1⟩
             subst e1
             have HOB := Lib.hid hown'
             have HBRB := Lib.hid (HBR.out.trans hbb)
             clear hown' hg hnil hbb))
        go_roundw
        case rel =>
          have hS2 : cellsS ((r.ds.take (k + 1)).map nameOf) = cellsS ((r.ds.take k).map nameOf) ++ [.string nm] := by rw [HTK.out]; simp [cellsS]
          first
            | exact ⟨k + 1, by omega, by simp, ⟨a1, c2, rfl⟩, by rw [hS2]; exact HOB.out, HBRB.out⟩
            | ((repeat apply Exists.intro); exact ⟨⟨k + 1, by omega, by simp, ⟨a1, c2, rfl⟩, by rw [hS2]; exact HOB.out, HBRB.out⟩, rfl⟩)
        case measure => simp [intOf]; omega
      · have hke : k = r.ds.length := by omega
        have htake : r.ds.take k = r.ds := by rw [hke, List.take_length]
        have hown2 := HOWN.out
        rw [htake] at hown2
        have hbx1 := HB15.out.trans (hbr.mono hs15)
        have hbx := HBWC.out.trans (hbr.mono HBWC.out.size)
        obtain ⟨q0, q1, q2, q3, q4, _⟩ := Cand.cells5' (HR5.out wr hbx1)
        have HO2 := Lib.hid hown2
        clear hown hbr htake hown2 HOWN HBR
        by_cases hz : r.ds = []
        · have hk0 : k = 0 := by rw [hke, hz]; rfl
          subst hk0
          have hD : daysL r = [] := by unfold daysL; rw [if_pos hz]
          obtain rfl := HDL.out.symm.trans hD
          clear hD hke hz
          have HBX := Lib.hid hbx
          have HB1X := Lib.hid hbx1
          clear hbx hbx1
          generalize wr = wx at *
          by_cases hcp : 0 < r.ct
          · have hu1 : r.un = -1 := by omega
            have hC : countL r = [32, 99, 111, 117, 110, 116, 32] ++ Lib.itoa r.ct := by unfold countL; rw [if_pos hcp]
            have hU : untilL r = [] := by unfold untilL; rw [if_neg (by simp [hu1])]
            obtain rfl := HCL.out.symm.trans hC
            obtain rfl := HUL.out.symm.trans hU
            clear hC hU
            have hi := itoa_b r.ct (by omega) (by omega) wx (HTAB.out wx HBX.out)
            have HI := Lib.hid hi
            have HU1 := Lib.hid hu1
            clear hi hu1
            go_wp2_with fail
            refine HI.out.mono ?_
            rintro e2 wy ⟨rfl, hby⟩
            obtain ⟨q0, q1, q2, q3, q4, _⟩ := Cand.cells5' (HR5.out wy (HB1X.out.trans (hby.mono HB1X.out.size)))
            have hu1 := HU1.out
            have HF := Lib.hid (HBX.out.trans (hby.mono HBX.out.size))
            clear hby
            go_wp2
            go_ret
            exact ⟨ret_val (by rw [HHD.out]; repeat (first | rw [List.append_nil] | rw [← cat])), HF.out⟩
          · have hC : countL r = [] := by unfold countL; rw [if_neg hcp]
            obtain rfl := HCL.out.symm.trans hC
            clear hC
            have hc0 : r.ct = 0 := by omega
            by_cases hu1 : r.un = -1
            · have hU : untilL r = [] := by unfold untilL; rw [if_neg (by simp [hu1])]
              obtain rfl := HUL.out.symm.trans hU
              clear hU
              go_wp2
              go_ret
              exact ⟨ret_val (by rw [HHD.out]; repeat (first | rw [List.append_nil] | rw [← cat])), HBX.out⟩
            · obtain ⟨y, m, d, hat⟩ := Cal.at_exists r.un (by omega) (by omega)
              have hU : untilL r = [32, 117, 110, 116, 105, 108, 32] ++ Cal.text y m d := by unfold untilL; rw [if_pos hu1, dayT_at hat]
              obtain rfl := HUL.out.symm.trans hU
              clear hU
              have htx := text_at r.un y m d wx hat (HTAB.out wx HBX.out)
              have hlt10 : (Cal.text y m d).length ≤ 10 := Nat.le_refl _
              have HTX := Lib.hid htx
              obtain ⟨TT, hTT⟩ : ∃ TT, Cal.text y m d = TT := ⟨_, rfl⟩
              rw [hTT] at hlt10 HTX
              have HTT := Lib.hid hTT
              clear htx hat hTT hc0
              have hcn : r.ct ≤ 0 := by omega
              go_wp2_with fail
              refine HTX.out.mono ?_
              rintro e2 wy ⟨rfl, hby⟩
              have HF := Lib.hid (HBX.out.trans (hby.mono HBX.out.size))
              clear hby
              go_wp2
              go_ret
              exact ⟨ret_val (by rw [HHD.out, HTT.out]; repeat (first | rw [List.append_nil] | rw [← cat])), HF.out⟩
        · have hk0 : 0 < k := by have : r.ds.length ≠ 0 := fun h => hz (List.length_eq_zero_iff.1 h); omega
          have hjl := join_le [44] (by simp) ((r.ds.map nameOf).map (·.data.toList)) (by
            intro x hx
            simp only [List.map_map, List.mem_map] at hx
            obtain ⟨d, _, rfl⟩ := hx
            exact nameOf_len d)
          simp only [List.length_map] at hjl
          have hks : k = (r.ds.map nameOf).length := by rw [List.length_map]; exact hke
          rcases reads_ownS HO2.out hks with ⟨h, _⟩ | ⟨g, c8, h1, h2, h3, h4⟩
          · rw [h] at hks; simp at hks; omega
          · rw [← hks] at h1 h2
            obtain ⟨rfl, rfl⟩ : a7 = some ⟨g, 0, none⟩ ∧ c7 = c8 := by cases h1; exact ⟨rfl, rfl⟩
            have hj := Tryd.strings_Join g 0 c7 (r.ds.map nameOf) ⟨#[44]⟩ wr h4 h3 (by omega) (by omega) (by
              show (Lib.join ((r.ds.map nameOf).map (·.data.toList)) [44]).length ≤ _
              omega)
            rw [← hks] at hj
            have hj2 : Calls Tryd.prog 81 #[.slice (some ⟨g, 0, none⟩) k c7, .string ⟨#[44]⟩] wr fun e w' => e = .returned (.string ⟨(Lib.join ((r.ds.map nameOf).map (·.data.toList)) [44]).toArray⟩) ∧ Below wr.heap.size wr w' := hj
            obtain ⟨J, hJ⟩ : ∃ J, Lib.join ((r.ds.map nameOf).map (·.data.toList)) [44] = J := ⟨_, rfl⟩
            rw [hJ] at hj2 hjl
            have hD : daysL r = [32] ++ J := by unfold daysL; rw [if_neg hz, ← hJ]
            obtain rfl := HDL.out.symm.trans hD
            have HJ := Lib.hid hj2
            have HBX0 := Lib.hid hbx
            have HB1X0 := Lib.hid hbx1
            have hjl2 : J.length ≤ 3000 := by omega
            clear hj hj2 hJ hD hjl hks h1 h2 h3 h4 hbx hbx1 hz hke
            go_wp2_with fail
            refine HJ.out.mono ?_
            rintro e1 wx ⟨rfl, hbj⟩
            have hbx1 := HB1X0.out.trans (hbj.mono HB1X0.out.size)
            obtain ⟨q0, q1, q2, q3, q4, _⟩ := Cand.cells5' (HR5.out wx hbx1)
            have HBX := Lib.hid (HBX0.out.trans (hbj.mono HBX0.out.size))
            have HB1X := Lib.hid hbx1
            clear hbx1 hbj HBX0 HB1X0
            by_cases hcp : 0 < r.ct
            · have hu1 : r.un = -1 := by omega
              have hC : countL r = [32, 99, 111, 117, 110, 116, 32] ++ Lib.itoa r.ct := by unfold countL; rw [if_pos hcp]
              have hU : untilL r = [] := by unfold untilL; rw [if_neg (by simp [hu1])]
              obtain rfl := HCL.out.symm.trans hC
              obtain rfl := HUL.out.symm.trans hU
              clear hC hU
              have hi := itoa_b r.ct (by omega) (by omega) wx (HTAB.out wx HBX.out)
              have HI := Lib.hid hi
              have HU1 := Lib.hid hu1
              clear hi hu1
              go_wp2_with fail
              refine HI.out.mono ?_
              rintro e2 wy ⟨rfl, hby⟩
              obtain ⟨q0, q1, q2, q3, q4, _⟩ := Cand.cells5' (HR5.out wy (HB1X.out.trans (hby.mono HB1X.out.size)))
              have hu1 := HU1.out
              have HF := Lib.hid (HBX.out.trans (hby.mono HBX.out.size))
              clear hby
              go_wp2
              go_ret
              exact ⟨ret_val (by rw [HHD.out]; repeat (first | rw [List.append_nil] | rw [← cat])), HF.out⟩
            · have hC : countL r = [] := by unfold countL; rw [if_neg hcp]
              obtain rfl := HCL.out.symm.trans hC
              clear hC
              have hc0 : r.ct = 0 := by omega
              by_cases hu1 : r.un = -1
              · have hU : untilL r = [] := by unfold untilL; rw [if_neg (by simp [hu1])]
                obtain rfl := HUL.out.symm.trans hU
                clear hU
                go_wp2
                go_ret
                exact ⟨ret_val (by rw [HHD.out]; repeat (first | rw [List.append_nil] | rw [← cat])), HBX.out⟩
              · obtain ⟨y, m, d, hat⟩ := Cal.at_exists r.un (by omega) (by omega)
                have hU : untilL r = [32, 117, 110, 116, 105, 108, 32] ++ Cal.text y m d := by unfold untilL; rw [if_pos hu1, dayT_at hat]
                obtain rfl := HUL.out.symm.trans hU
                clear hU
                have htx := text_at r.un y m d wx hat (HTAB.out wx HBX.out)
                have hlt10 : (Cal.text y m d).length ≤ 10 := Nat.le_refl _
                have HTX := Lib.hid htx
                obtain ⟨TT, hTT⟩ : ∃ TT, Cal.text y m d = TT := ⟨_, rfl⟩
                rw [hTT] at hlt10 HTX
                have HTT := Lib.hid hTT
                clear htx hat hTT hc0
                have hcn : r.ct ≤ 0 := by omega
                go_wp2_with fail
                refine HTX.out.mono ?_
                rintro e2 wy ⟨rfl, hby⟩
                have HF := Lib.hid (HBX.out.trans (hby.mono HBX.out.size))
                clear hby
                go_wp2
                go_ret
                exact ⟨ret_val (by rw [HHD.out, HTT.out]; repeat (first | rw [List.append_nil] | rw [← cat])), HF.out⟩
end Rul
end Go.Proofs.YtmlndamkcipebaaDoor
