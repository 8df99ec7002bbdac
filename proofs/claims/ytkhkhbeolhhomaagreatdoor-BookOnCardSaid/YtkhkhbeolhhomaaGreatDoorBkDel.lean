/- slices.IndexFunc and slices.DeleteFunc at texts, with a predicate that may lay blocks. -/
import Derived.Test.YtkhkhbeolhhomaaGreatDoorTexts
import Derived.Test.YtkhkhbeolhhomaaGreatDoorOnly
import Derived.Lib.SliceRun
import Derived.Laws.IdiomCopy
import Derived.Shelf.Abstract
namespace Go.Proofs.YtkhkhbeolhhomaaGreatDoor
open Go Go.RowKit Go.Shelf Lmd
attribute [local go_sem] Oper.semAt_some
namespace Bk
open Evt Tp Rul Day Cand Er

/-- the texts that a row holds now -/
def TRow (w : World) (b n : Nat) (d : Nat → ByteArray) : Prop := ∀ j, j < n → w.cell? ⟨b, j, none⟩ = some (.string (d j)) ∧ w.frozen? ⟨b, j, none⟩ = false
/-- a predicate, whatever lies from n0 on; it may lay blocks -/
def PredB (g : Nat) (lb : Array Value) (p : ByteArray → Bool) (n0 : Nat) (w0 : World) : Prop :=
  ∀ (W : World) (x : ByteArray), Below n0 w0 W → x.size ≤ 9223372036854775807 → Calls Tryz.prog g (#[.string x] ++ lb) W fun e w' => e = .returned (.bool (p x)) ∧ Below W.heap.size W w'
theorem TRow.below {w w' : World} {b n : Nat} {d : Nat → ByteArray} (h : TRow w b n d) (hb : Below w.heap.size w w') : TRow w' b n d := fun j hj => by
  obtain ⟨h1, h2⟩ := h j hj
  refine ⟨cell_later hb h1, ?_⟩
  have hl : b < w.heap.size := cell_lt h1
  simp only [World.frozen?] at h2 ⊢
  rw [hb.block b hl]; exact h2
theorem TRow.set {w : World} {b n i : Nat} {d : Nat → ByteArray} (h : TRow w b n d) (x : ByteArray) (hi : i < n) : TRow (w.setCell ⟨b, i, none⟩ (.string x)) b n (fun t => if t = i then x else d t) := fun j hj => by
  obtain ⟨h1, h2⟩ := h j hj
  refine ⟨?_, by rw [World.frozen?_setCell]; exact h2⟩
  by_cases e : j = i
  · subst e
    show _ = some (Value.string (if j = j then x else d j))
    rw [if_pos rfl]
    exact World.cell?_setCell_same _ _ _ h1
  · show _ = some (Value.string (if j = i then x else d j))
    rw [if_neg e]
    exact (World.cell?_setCell_other w ⟨b, i, none⟩ ⟨b, j, none⟩ (.string x) (by intro h; injection h with _ h2; exact e h2.symm)).trans h1
/-- what a search finds -/
def Hit (p : ByteArray → Bool) (d : Nat → ByteArray) (n : Nat) (r : Int) : Prop := (r = -1 ∧ ∀ j, j < n → p (d j) = false) ∨ ∃ j : Nat, j < n ∧ r = (j : Int) ∧ p (d j) = true ∧ ∀ i, i < j → p (d i) = false
set_option maxRecDepth 100000 in
set_option maxHeartbeats 2000000 in
theorem indexFunc_any (g : Nat) (lb : Array Value) (eg : ∀ args w, (callFunc g args).run Tryz.prog w = .ok (.enter g args) w) (p : ByteArray → Bool) (n0 : Nat) (w0 : World) (hp : PredB g lb p n0 w0)
    (a : Option Addr) (n c : Nat) (d : Nat → ByteArray) (w : World) (hr : n = 0 ∨ ∃ b, a = some ⟨b, 0, none⟩ ∧ TRow w b n d) (hz : ∀ j, j < n → (d j).size ≤ 9223372036854775807) (hb : Below n0 w0 w) (hns : n0 ≤ w.heap.size) (hn : n ≤ 100000) :
    Calls Tryz.prog 133 #[.slice a n c, .func (.func g) #[] lb] w fun e w' => ∃ r : Int, e = .returned (.int .i64 r) ∧ Hit p d n r ∧ Below w.heap.size w w' := by
  have HR := Lib.hid hr
  have HP := Lib.hid hp
  have HB := Lib.hid hb
  have HZ := Lib.hid hz
  clear hr hp hb hz
  go_enter Tryz.func133, Tryz.ntmps133
  go_wp2
  go_loopw [5, 8] (fun _ i wr => ∃ k : Nat, k ≤ n ∧ i = .int .i64 (k : Int) ∧ Below w.heap.size w wr ∧ ∀ j, j < k → p (d j) = false) (fun _ i _ => n - (intOf i).toNat)
  case atStart => exact ⟨0, Nat.zero_le _, rfl, Below.refl _ _, fun _ h => absurd h (Nat.not_lt_zero _)⟩
  case round =>
    obtain ⟨k, hk, rfl, hbr, hs⟩ := hrel
    have HS := Lib.hid hs
    have HBR := Lib.hid hbr
    clear hs hbr
    by_cases hlt : k < n
    · obtain ⟨b, rfl, hrow⟩ := HR.out.resolve_left (by omega)
      obtain ⟨c0, -⟩ := (hrow.below HBR.out) k hlt
      clear hrow
      obtain ⟨x, hx⟩ : ∃ x, d k = x := ⟨_, rfl⟩
      have hzx : x.size ≤ 9223372036854775807 := by rw [← hx]; exact HZ.out k hlt
      rw [hx] at c0
      have HC := Lib.hid (HP.out wr x (HB.out.trans (HBR.out.mono hns)) hzx)
      obtain ⟨q, hq⟩ : ∃ q, p x = q := ⟨_, rfl⟩
      rw [hq] at HC
      have HX := Lib.hid (And.intro hx hq)
      clear hx hzx hq
      cases q with
      | true =>
        go_wp2_with (go_at_fn g; (with_reducible refine HC.out.mono ?_); rintro e1 w1 ⟨rfl, hb1⟩; have HB1 := Lib.hid (HBR.out.trans (hb1.mono HBR.out.size)); clear hb1)
        go_ret
        exact ⟨_, rfl, .inr ⟨k, hlt, rfl, by rw [HX.out.1]; exact HX.out.2, HS.out⟩, HB1.out⟩
      | false =>
        go_wp2_with (go_at_fn g; (with_reducible refine HC.out.mono ?_); rintro e1 w1 ⟨rfl, hb1⟩; have HB1 := Lib.hid (HBR.out.trans (hb1.mono HBR.out.size)); clear hb1)
        go_roundw
        case rel => exact ⟨k + 1, by omega, by go_num, HB1.out, fun j hj => by
          by_cases ej : j = k
          · subst ej; rw [HX.out.1]; exact HX.out.2
          · exact HS.out j (by omega)⟩
        case measure => simp [intOf]; omega
    · obtain rfl : k = n := by omega
      go_wp2
      go_ret
      exact ⟨_, rfl, .inl ⟨rfl, HS.out⟩, HBR.out⟩

theorem belowCells {B b : Nat} {a : World} (hb : B ≤ b) : ∀ (vs : List Value) (o : Nat) {w : World}, Below B a w → Below B a (w.setCells b o vs)
  | [], _, _, h => h
  | v :: t, o, _, h => belowCells hb t (o + 1) (h.setCell (p := ⟨b, o, none⟩) hb v)
/-- a text of a list -/
def tel (xs : List ByteArray) (j : Nat) : ByteArray := xs[j]?.getD ⟨#[]⟩
theorem tel_lt {xs : List ByteArray} {j : Nat} (h : j < xs.length) : tel xs j = xs[j] := by simp [tel, h]
theorem tel_take {xs : List ByteArray} {k : Nat} (h : k < xs.length) : xs.take (k + 1) = xs.take k ++ [tel xs k] := by
  rw [List.take_succ_eq_append_getElem h, tel_lt h]
/-- what the loop keeps -/
structure Kept (p : ByteArray → Bool) (xs : List ByteArray) (i j : Nat) (d : Nat → ByteArray) : Prop where
  lt : i < j
  le : j ≤ xs.length
  len : ((xs.take j).filter fun x => !p x).length = i
  low : ∀ t, t < i → tel ((xs.take j).filter fun x => !p x) t = d t
  high : ∀ t, j ≤ t → t < xs.length → d t = tel xs t
theorem Kept.start {p : ByteArray → Bool} {xs : List ByteArray} {i : Nat} (hi : i < xs.length) (h1 : p (tel xs i) = true) (h0 : ∀ t, t < i → p (tel xs t) = false) : Kept p xs i (i + 1) (tel xs) := by
  have e0 : (xs.take i).filter (fun x => !p x) = xs.take i := by
    refine List.filter_eq_self.2 fun x hx => ?_
    obtain ⟨t, ht, rfl⟩ := List.mem_iff_getElem.1 hx
    rw [List.length_take] at ht
    have := h0 t (by omega)
    rw [tel_lt (by omega)] at this
    rw [List.getElem_take, this]; rfl
  have e1 : (xs.take (i + 1)).filter (fun x => !p x) = xs.take i := by
    rw [tel_take hi, List.filter_append, e0, List.filter_cons, h1]; simp
  refine ⟨Nat.lt_succ_self i, hi, by rw [e1, List.length_take]; omega, fun t ht => ?_, fun t _ _ => rfl⟩
  rw [e1, tel, tel, List.getElem?_take_of_lt ht]
theorem Kept.skip {p : ByteArray → Bool} {xs : List ByteArray} {i j : Nat} {d : Nat → ByteArray} (h : Kept p xs i j d) (hj : j < xs.length) (hp : p (tel xs j) = true) : Kept p xs i (j + 1) d := by
  have e : (xs.take (j + 1)).filter (fun x => !p x) = (xs.take j).filter (fun x => !p x) := by rw [tel_take hj, List.filter_append, List.filter_cons, hp]; simp
  exact ⟨Nat.lt_succ_of_lt h.lt, hj, by rw [e]; exact h.len, fun t ht => by rw [e]; exact h.low t ht, fun t ht => h.high t (by omega)⟩
theorem Kept.keep {p : ByteArray → Bool} {xs : List ByteArray} {i j : Nat} {d : Nat → ByteArray} (h : Kept p xs i j d) (hj : j < xs.length) (hp : p (tel xs j) = false) : Kept p xs (i + 1) (j + 1) (fun t => if t = i then tel xs j else d t) := by
  have e : (xs.take (j + 1)).filter (fun x => !p x) = (xs.take j).filter (fun x => !p x) ++ [tel xs j] := by rw [tel_take hj, List.filter_append, List.filter_cons, hp]; simp
  have hl := h.lt
  have hn := h.len
  refine ⟨Nat.succ_lt_succ h.lt, hj, by rw [e, List.length_append, hn]; rfl, fun t ht => ?_, fun t ht hx => ?_⟩
  · rw [e, tel]
    by_cases et : t = i
    · subst et
      rw [if_pos rfl, List.getElem?_append_right (by omega), hn, Nat.sub_self]; rfl
    · rw [if_neg et, List.getElem?_append_left (by omega)]
      exact h.low t (by omega)
  · have e2 : t ≠ i := by omega
    show (if t = i then _ else _) = _
    rw [if_neg e2]; exact h.high t (by omega) hx
def Deleted (w : World) (b : Nat) (ys : List ByteArray) (r : Ending) (w' : World) : Prop := ∃ v, r = .returned v ∧ Tx.Rd w' v ys ∧ Below b w w'
theorem filter_none {p : ByteArray → Bool} {xs : List ByteArray} (h : ∀ j, j < xs.length → p (tel xs j) = false) : xs.filter (fun x => !p x) = xs :=
  List.filter_eq_self.2 fun x hx => by
    obtain ⟨t, ht, rfl⟩ := List.mem_iff_getElem.1 hx
    have := h t ht
    rw [tel_lt ht] at this
    rw [this]; rfl
theorem rd_row {w : World} {b c : Nat} {ys : List ByteArray} (h : ∀ t, t < ys.length → w.cell? ⟨b, t, none⟩ = some (.string (tel ys t))) : Tx.Rd w (.slice (some ⟨b, 0, none⟩) ys.length c) ys := by
  refine .inr ⟨b, 0, c, rfl, fun j x hx => ?_⟩
  obtain ⟨hj, e⟩ := List.getElem?_eq_some_iff.1 hx
  rw [Nat.zero_add, h j hj, tel_lt hj, e]
set_option maxRecDepth 100000 in
set_option maxHeartbeats 4000000 in
theorem deleteFunc_row (g : Nat) (lb : Array Value) (eg : ∀ args w, (callFunc g args).run Tryz.prog w = .ok (.enter g args) w) (p : ByteArray → Bool) (n0 : Nat) (w0 : World) (hp : PredB g lb p n0 w0)
    (b c : Nat) (xs : List ByteArray) (w : World) (hr : TRow w b xs.length (tel xs)) (hc : xs.length ≤ c) (hz : ∀ x ∈ xs, x.size ≤ 9223372036854775807) (hb : Below n0 w0 w) (hn0 : n0 ≤ b) (hbl : b < w.heap.size) (hn : xs.length ≤ 100000) :
    Calls Tryz.prog 77 #[.slice (some ⟨b, 0, none⟩) xs.length c, .func (.func g) #[] lb] w (Deleted w b (xs.filter fun x => !p x)) := by
  have hzt : ∀ j, j < xs.length → (tel xs j).size ≤ 9223372036854775807 := fun j hj => by rw [tel_lt hj]; exact hz _ (List.getElem_mem hj)
  have hif := indexFunc_any g lb eg p n0 w0 hp (some ⟨b, 0, none⟩) xs.length c (tel xs) w (.inr ⟨b, rfl, hr⟩) hzt hb (by omega) hn
  obtain ⟨n, hnn⟩ : ∃ n, xs.length = n := ⟨_, rfl⟩
  rw [hnn] at hif hr hc hn hzt ⊢
  have HR := Lib.hid hr
  have HP := Lib.hid hp
  have HB := Lib.hid hb
  have HZ := Lib.hid hzt
  have HI := Lib.hid hif
  have HN := Lib.hid hnn
  clear hr hp hb hz hzt hif hnn
  unfold Deleted
  go_enter Tryz.func77, Tryz.ntmps77
  go_wp2_with fail
  (with_reducible refine HI.out.mono ?_)
  rintro e1 w1 ⟨r, rfl, hh, hb1⟩
  rcases hh with ⟨rfl, hno⟩ | ⟨i, hi, rfl, h1, h0⟩
  · have HNO := Lib.hid hno
    have HB1 := Lib.hid hb1
    clear hno hb1
    go_wp2
    go_ret
    refine ⟨_, rfl, ?_, HB1.out.mono (Nat.le_of_lt hbl)⟩
    rw [filter_none (xs := xs) (fun j hj => HNO.out j (by rw [HN.out] at hj; exact hj)), ← HN.out]
    exact rd_row fun t ht => ((HR.out.below HB1.out) t (by rw [HN.out] at ht; exact ht)).1
  · have HK := Lib.hid (Kept.start (p := p) (by rw [HN.out]; exact hi) h1 h0)
    have HR1 := Lib.hid (HR.out.below hb1)
    have HB1 := Lib.hid (hb1.mono (Nat.le_of_lt hbl))
    have hcl := fun (wr : World) (d : Nat → ByteArray) (k : Nat) (hk : k < n) (h : TRow wr b n d) (ty : TypeId) =>
      Lib.run_clear_slice wr 30 9 ty (.string ⟨#[]⟩) Tryz.underlying30 Tryz.zeroValue9 rfl rfl b k (n - k) (c - k) (by omega) (fun j hj => by rw [(h (k + j) (by omega)).1]; rfl) (fun j hj => (h (k + j) (by omega)).2)
    have HCL := Lib.hid hcl
    clear h1 h0 hb1 hcl
    go_wp2_with fail
    go_loopw [5, 6, 7] (fun u v _ wr => ∃ (k j : Nat) (d : Nat → ByteArray), u = .int .i64 (k : Int) ∧ v = .int .i64 (j : Int) ∧ Kept p xs k j d ∧ TRow wr b n d ∧ Below b w wr) (fun _ v _ _ => n - (intOf v).toNat)
    case atStart => exact ⟨i, i + 1, tel xs, rfl, by go_num, HK.out, HR1.out, HB1.out⟩
    case round =>
      obtain ⟨k, j, d, rfl, rfl, hk, hrow, hbr⟩ := hrel
      have hkj := hk.lt
      have hjn := hk.le
      rw [HN.out] at hjn
      have hkn : k < n := by omega
      have HKK := Lib.hid hk
      have HROW := Lib.hid hrow
      have HBR := Lib.hid hbr
      clear hk hrow hbr
      by_cases hlt : j < n
      · obtain ⟨x, hx⟩ : ∃ x, tel xs j = x := ⟨_, rfl⟩
        have hdj : d j = x := by rw [HKK.out.high j (Nat.le_refl _) (by rw [HN.out]; exact hlt), hx]
        obtain ⟨c0, -⟩ := HROW.out j hlt
        rw [hdj] at c0
        have hzx : x.size ≤ 9223372036854775807 := by rw [← hx]; exact HZ.out j hlt
        have HC := Lib.hid (HP.out wr x (HB.out.trans (HBR.out.mono hn0)) hzx)
        obtain ⟨q, hq⟩ : ∃ q, p x = q := ⟨_, rfl⟩
        rw [hq] at HC
        have HX := Lib.hid (And.intro hx hq)
        clear hx hzx hq hdj
        have hblw : b ≤ wr.heap.size := Nat.le_of_lt (cell_lt c0)
        cases q with
        | true =>
          go_wp2_with (go_at_fn g; (with_reducible refine HC.out.mono ?_); rintro e2 w2 ⟨rfl, hb2⟩; have HROW2 := Lib.hid (HROW.out.below hb2); have HB2 := Lib.hid (HBR.out.trans (hb2.mono hblw)); clear hb2)
          go_roundw
          case rel =>
            refine ⟨_, _, _, _, _, _, _, _, _, _, _, _, _, _, _, _, _, _, _, _, _, _, _, ?_, rfl⟩
            exact ⟨k, j + 1, d, rfl, by go_num, HKK.out.skip (by rw [HN.out]; exact hlt) (by rw [HX.out.1]; exact HX.out.2), HROW2.out, HB2.out⟩
          case measure => simp [intOf]; omega
        | false =>
          go_wp2_with (go_at_fn g; (with_reducible refine HC.out.mono ?_); rintro e2 w2 ⟨rfl, hb2⟩; have HROW2 := Lib.hid (HROW.out.below hb2); have HB2 := Lib.hid (HBR.out.trans (hb2.mono hblw)); clear hb2; obtain ⟨k0, f0⟩ := HROW2.out k hkn)
          go_roundw
          case rel =>
            refine ⟨_, _, _, _, _, _, _, _, _, _, _, _, _, _, _, _, _, _, _, _, _, _, _, ?_, rfl⟩
            exact ⟨k + 1, j + 1, _, by go_num, by go_num, HKK.out.keep (by rw [HN.out]; exact hlt) (by rw [HX.out.1]; exact HX.out.2), by rw [HX.out.1]; exact HROW2.out.set x (by omega), HB2.out.setCell (p := ⟨b, k, none⟩) (Nat.le_refl _) _⟩
          case measure => simp [intOf]; omega
      · obtain rfl : j = n := by omega
        have hq := HCL.out wr d k hkj HROW.out
        have hlen : ((xs.take xs.length).filter fun x => !p x).length = k := by rw [HN.out]; exact HKK.out.len
        have hlow := HKK.out.low
        rw [← HN.out] at hlow
        rw [List.take_length] at hlen hlow
        have HLEN := Lib.hid hlen
        have HLOW := Lib.hid hlow
        clear hlen hlow
        go_wp2
        go_ret
        refine ⟨_, rfl, ?_, belowCells (Nat.le_refl _) _ _ HBR.out⟩
        have e : (xs.filter fun x => !p x).length = k := HLEN.out
        rw [← e]
        refine rd_row fun t ht => ?_
        rw [e] at ht
        rw [World.cell?_setCells_out _ _ _ _ _ (fun _ _ => .inl (by rw [e]; exact ht)), (HROW.out t (by omega)).1, HLOW.out t ht]
set_option maxRecDepth 100000 in
set_option maxHeartbeats 4000000 in
theorem deleteFunc_nil (g : Nat) (lb : Array Value) (eg : ∀ args w, (callFunc g args).run Tryz.prog w = .ok (.enter g args) w) (p : ByteArray → Bool) (n0 : Nat) (w0 : World) (hp : PredB g lb p n0 w0) (w : World) (hb : Below n0 w0 w) (hn0 : n0 ≤ w.heap.size) :
    Calls Tryz.prog 77 #[.slice none 0 0, .func (.func g) #[] lb] w fun r w' => r = .returned (.slice none 0 0) ∧ Below w.heap.size w w' := by
  have hif := indexFunc_any g lb eg p n0 w0 hp none 0 0 (fun _ => ⟨#[]⟩) w (.inl rfl) (fun j hj => absurd hj (Nat.not_lt_zero _)) hb hn0 (by omega)
  have HI := Lib.hid hif
  clear hif hp hb
  go_enter Tryz.func77, Tryz.ntmps77
  go_wp2_with fail
  (with_reducible refine HI.out.mono ?_)
  rintro e1 w1 ⟨r, rfl, hh, hb1⟩
  rcases hh with ⟨rfl, -⟩ | ⟨i, hi, -⟩
  · go_wp2
    go_ret
    exact ⟨rfl, hb1⟩
  · exact absurd hi (Nat.not_lt_zero _)
end Bk
end Go.Proofs.YtkhkhbeolhhomaaGreatDoor
