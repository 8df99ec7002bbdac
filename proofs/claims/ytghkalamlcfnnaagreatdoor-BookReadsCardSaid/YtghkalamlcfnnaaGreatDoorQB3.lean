/- BkDel, BkOn, Booked: texts joined. -/
import Derived.Test.YtghkalamlcfnnaaGreatDoorQBkSm
import Derived.Test.YtghkalamlcfnnaaGreatDoorQD4
import Derived.Test.YtghkalamlcfnnaaGreatDoorQA13
import Derived.Test.YtghkalamlcfnnaaGreatDoorQA6
import Derived.Lib.SliceRun
import Derived.Laws.IdiomCopy
import Derived.Shelf.Abstract
import Derived.Test.YtghkalamlcfnnaaGreatDoorQA14
import Derived.Test.YtghkalamlcfnnaaGreatDoorQBkBook
import Derived.Test.YtghkalamlcfnnaaGreatDoorQA11
import Derived.Test.YtghkalamlcfnnaaGreatDoorQA16
import Derived.Deep.CutRange
section
/- slices.IndexFunc and slices.DeleteFunc at texts, with a predicate that may lay blocks. -/
namespace Go.Proofs.YtghkalamlcfnnaaGreatDoor
open Go Go.RowKit Go.Shelf Lmd
attribute [local go_sem] Oper.semAt_some
namespace Bk
open Evt Tp Rul Day Cand Er

/-- the texts that a row holds now -/
def TRow (w : World) (b n : Nat) (d : Nat → ByteArray) : Prop := ∀ j, j < n → w.cell? ⟨b, j, none⟩ = some (.string (d j)) ∧ w.frozen? ⟨b, j, none⟩ = false
/-- a predicate, whatever lies from n0 on; it may lay blocks -/
def PredB (g : Nat) (lb : Array Value) (p : ByteArray → Bool) (n0 : Nat) (w0 : World) : Prop :=
  ∀ (W : World) (x : ByteArray), Below n0 w0 W → x.size ≤ 9223372036854775807 → Calls Tryz.prog g (#[.string x] ++ lb) W fun e w' => e = .returned (.bool (p x)) ∧ Below W.heap.size W w'
theorem TRow.below {w w' : World} {b n : Nat} {d : Nat → ByteArray} (h : TRow w b n d) (hb : Below w.heap.size w w') : TRow w' b n d := fun j hj => by
  obtain ⟨h1, h2⟩ := h j hj
  refine ⟨cell_later hb h1, ?_⟩
  have hl : b < w.heap.size := cell_lt h1
  simp only [World.frozen?] at h2 ⊢
  rw [hb.block b hl]; exact h2
theorem TRow.set {w : World} {b n i : Nat} {d : Nat → ByteArray} (h : TRow w b n d) (x : ByteArray) (hi : i < n) : TRow (w.setCell ⟨b, i, none⟩ (.string x)) b n (fun t => if t = i then x else d t) := fun j hj => by
  obtain ⟨h1, h2⟩ := h j hj
  refine ⟨?_, by rw [World.frozen?_setCell]; exact h2⟩
  by_cases e : j = i
  · subst e
    show _ = some (Value.string (if j = j then x else d j))
    rw [if_pos rfl]
    exact World.cell?_setCell_same _ _ _ h1
  · show _ = some (Value.string (if j = i then x else d j))
    rw [if_neg e]
    exact (World.cell?_setCell_other w ⟨b, i, none⟩ ⟨b, j, none⟩ (.string x) (by intro h; injection h with _ h2; exact e h2.symm)).trans h1
/-- what a search finds -/
def Hit (p : ByteArray → Bool) (d : Nat → ByteArray) (n : Nat) (r : Int) : Prop := (r = -1 ∧ ∀ j, j < n → p (d j) = false) ∨ ∃ j : Nat, j < n ∧ r = (j : Int) ∧ p (d j) = true ∧ ∀ i, i < j → p (d i) = false
set_option maxRecDepth 100000 in
set_option maxHeartbeats 2000000 in
theorem indexFunc_any (g : Nat) (lb : Array Value) (eg : ∀ args w, (callFunc g args).run Tryz.prog w = .ok (.enter g args) w) (p : ByteArray → Bool) (n0 : Nat) (w0 : World) (hp : PredB g lb p n0 w0)
    (a : Option Addr) (n c : Nat) (d : Nat → ByteArray) (w : World) (hr : n = 0 ∨ ∃ b, a = some ⟨b, 0, none⟩ ∧ TRow w b n d) (hz : ∀ j, j < n → (d j).size ≤ 9223372036854775807) (hb : Below n0 w0 w) (hns : n0 ≤ w.heap.size) (hn : n ≤ 100000) :
    Calls Tryz.prog 159 #[.slice a n c, .func (.func g) #[] lb] w fun e w' => ∃ r : Int, e = .returned (.int .i64 r) ∧ Hit p d n r ∧ Below w.heap.size w w' := by
  have HR := Lib.hid hr
  have HP := Lib.hid hp
  have HB := Lib.hid hb
  have HZ := Lib.hid hz
  clear hr hp hb hz
  go_enter Tryz.func159, Tryz.ntmps159
  go_wp2
  go_loopw [5, 8] (fun _ i wr => ∃ k : Nat, k ≤ n ∧ i = .int .i64 (k : Int) ∧ Below w.heap.size w wr ∧ ∀ j, j < k → p (d j) = false) (fun _ i _ => n - (intOf i).toNat)
  case atStart => exact ⟨0, Nat.zero_le _, rfl, Below.refl _ _, fun _ h => absurd h (Nat.not_lt_zero _)⟩
  case round =>
    obtain ⟨k, hk, rfl, hbr, hs⟩ := hrel
    have HS := Lib.hid hs
    have HBR := Lib.hid hbr
    clear hs hbr
    by_cases hlt : k < n
    · obtain ⟨b, rfl, hrow⟩ := HR.out.resolve_left (by omega)
      obtain ⟨c0, -⟩ := (hrow.below HBR.out) k hlt
      clear hrow
      obtain ⟨x, hx⟩ : ∃ x, d k = x := ⟨_, rfl⟩
      have hzx : x.size ≤ 9223372036854775807 := by rw [← hx]; exact HZ.out k hlt
      rw [hx] at c0
      have HC := Lib.hid (HP.out wr x (HB.out.trans (HBR.out.mono hns)) hzx)
      obtain ⟨q, hq⟩ : ∃ q, p x = q := ⟨_, rfl⟩
      rw [hq] at HC
      have HX := Lib.hid (And.intro hx hq)
      clear hx hzx hq
      cases q with
      | true =>
        go_wp2_with (go_at_fn g; (with_reducible refine HC.out.mono ?_); rintro e1 w1 ⟨rfl, hb1⟩; have HB1 := Lib.hid (HBR.out.trans (hb1.mono HBR.out.size)); clear hb1)
        go_ret
        exact ⟨_, rfl, .inr ⟨k, hlt, rfl, by rw [HX.out.1]; exact HX.out.2, HS.out⟩, HB1.out⟩
      | false =>
        go_wp2_with (go_at_fn g; (with_reducible refine HC.out.mono ?_); rintro e1 w1 ⟨rfl, hb1⟩; have HB1 := Lib.hid (HBR.out.trans (hb1.mono HBR.out.size)); clear hb1)
        go_roundw
        case rel => exact ⟨k + 1, by omega, by go_num, HB1.out, fun j hj => by
          by_cases ej : j = k
          · subst ej; rw [HX.out.1]; exact HX.out.2
          · exact HS.out j (by omega)⟩
        case measure => simp [intOf]; omega
    · obtain rfl : k = n := by omega
      go_wp2
      go_ret
      exact ⟨_, rfl, .inl ⟨rfl, HS.out⟩, HBR.out⟩

theorem belowCells {B b : Nat} {a : World} (hb : B ≤ b) : ∀ (vs : List Value) (o : Nat) {w : World}, Below B a w → Below B a (w.setCells b o vs)
  | [], _, _, h => h
  | v :: t, o, _, h => belowCells hb t (o + 1) (h.setCell (p := ⟨b, o, none⟩) hb v)
/-- a text of a list -/
def tel (xs : List ByteArray) (j : Nat) : ByteArray := xs[j]?.getD ⟨#[]⟩
theorem tel_lt {xs : List ByteArray} {j : Nat} (h : j < xs.length) : tel xs j = xs[j] := by simp [tel, h]
theorem tel_take {xs : List ByteArray} {k : Nat} (h : k < xs.length) : xs.take (k + 1) = xs.take k ++ [tel xs k] := by
  rw [List.take_succ_eq_append_getElem h, tel_lt h]
/-- what the loop keeps -/
structure Kept (p : ByteArray → Bool) (xs : List ByteArray) (i j : Nat) (d : Nat → ByteArray) : Prop where
  lt : i < j
  le : j ≤ xs.length
  len : ((xs.take j).filter fun x => !p x).length = i
  low : ∀ t, t < i → tel ((xs.take j).filter fun x => !p x) t = d t
  high : ∀ t, j ≤ t → t < xs.length → d t = tel xs t
theorem Kept.start {p : ByteArray → Bool} {xs : List ByteArray} {i : Nat} (hi : i < xs.length) (h1 : p (tel xs i) = true) (h0 : ∀ t, t < i → p (tel xs t) = false) : Kept p xs i (i + 1) (tel xs) := by
  have e0 : (xs.take i).filter (fun x => !p x) = xs.take i := by
    refine List.filter_eq_self.2 fun x hx => ?_
    obtain ⟨t, ht, rfl⟩ := List.mem_iff_getElem.1 hx
    rw [List.length_take] at ht
    have := h0 t (by omega)
    rw [tel_lt (by omega)] at this
    rw [List.getElem_take, this]; rfl
  have e1 : (xs.take (i + 1)).filter (fun x => !p x) = xs.take i := by
    rw [tel_take hi, List.filter_append, e0, List.filter_cons, h1]; simp
  refine ⟨Nat.lt_succ_self i, hi, by rw [e1, List.length_take]; omega, fun t ht => ?_, fun t _ _ => rfl⟩
  rw [e1, tel, tel, List.getElem?_take_of_lt ht]
theorem Kept.skip {p : ByteArray → Bool} {xs : List ByteArray} {i j : Nat} {d : Nat → ByteArray} (h : Kept p xs i j d) (hj : j < xs.length) (hp : p (tel xs j) = true) : Kept p xs i (j + 1) d := by
  have e : (xs.take (j + 1)).filter (fun x => !p x) = (xs.take j).filter (fun x => !p x) := by rw [tel_take hj, List.filter_append, List.filter_cons, hp]; simp
  exact ⟨Nat.lt_succ_of_lt h.lt, hj, by rw [e]; exact h.len, fun t ht => by rw [e]; exact h.low t ht, fun t ht => h.high t (by omega)⟩
theorem Kept.keep {p : ByteArray → Bool} {xs : List ByteArray} {i j : Nat} {d : Nat → ByteArray} (h : Kept p xs i j d) (hj : j < xs.length) (hp : p (tel xs j) = false) : Kept p xs (i + 1) (j + 1) (fun t => if t = i then tel xs j else d t) := by
  have e : (xs.take (j + 1)).filter (fun x => !p x) = (xs.take j).filter (fun x => !p x) ++ [tel xs j] := by rw [tel_take hj, List.filter_append, List.filter_cons, hp]; simp
  have hl := h.lt
  have hn := h.len
  refine ⟨Nat.succ_lt_succ h.lt, hj, by rw [e, List.length_append, hn]; rfl, fun t ht => ?_, fun t ht hx => ?_⟩
  · rw [e, tel]
    by_cases et : t = i
    · subst et
      rw [if_pos rfl, List.getElem?_append_right (by omega), hn, Nat.sub_self]; rfl
    · rw [if_neg et, List.getElem?_append_left (by omega)]
      exact h.low t (by omega)
  · have e2 : t ≠ i := by omega
    show (if t = i then _ else _) = _
    rw [if_neg e2]; exact h.high t (by omega) hx
def Deleted (w : World) (b : Nat) (ys : List ByteArray) (r : Ending) (w' : World) : Prop := ∃ v, r = .returned v ∧ Tx.Rd w' v ys ∧ Below b w w'
theorem filter_none {p : ByteArray → Bool} {xs : List ByteArray} (h : ∀ j, j < xs.length → p (tel xs j) = false) : xs.filter (fun x => !p x) = xs :=
  List.filter_eq_self.2 fun x hx => by
    obtain ⟨t, ht, rfl⟩ := List.mem_iff_getElem.1 hx
    have := h t ht
    rw [tel_lt ht] at this
    rw [this]; rfl
theorem rd_row {w : World} {b c : Nat} {ys : List ByteArray} (h : ∀ t, t < ys.length → w.cell? ⟨b, t, none⟩ = some (.string (tel ys t))) : Tx.Rd w (.slice (some ⟨b, 0, none⟩) ys.length c) ys := by
  refine .inr ⟨b, 0, c, rfl, fun j x hx => ?_⟩
  obtain ⟨hj, e⟩ := List.getElem?_eq_some_iff.1 hx
  rw [Nat.zero_add, h j hj, tel_lt hj, e]
set_option maxRecDepth 100000 in
set_option maxHeartbeats 4000000 in
theorem deleteFunc_row (g : Nat) (lb : Array Value) (eg : ∀ args w, (callFunc g args).run Tryz.prog w = .ok (.enter g args) w) (p : ByteArray → Bool) (n0 : Nat) (w0 : World) (hp : PredB g lb p n0 w0)
    (b c : Nat) (xs : List ByteArray) (w : World) (hr : TRow w b xs.length (tel xs)) (hc : xs.length ≤ c) (hz : ∀ x ∈ xs, x.size ≤ 9223372036854775807) (hb : Below n0 w0 w) (hn0 : n0 ≤ b) (hbl : b < w.heap.size) (hn : xs.length ≤ 100000) :
    Calls Tryz.prog 105 #[.slice (some ⟨b, 0, none⟩) xs.length c, .func (.func g) #[] lb] w (Deleted w b (xs.filter fun x => !p x)) := by
  have hzt : ∀ j, j < xs.length → (tel xs j).size ≤ 9223372036854775807 := fun j hj => by rw [tel_lt hj]; exact hz _ (List.getElem_mem hj)
  have hif := indexFunc_any g lb eg p n0 w0 hp (some ⟨b, 0, none⟩) xs.length c (tel xs) w (.inr ⟨b, rfl, hr⟩) hzt hb (by omega) hn
  obtain ⟨n, hnn⟩ : ∃ n, xs.length = n := ⟨_, rfl⟩
  rw [hnn] at hif hr hc hn hzt ⊢
  have HR := Lib.hid hr
  have HP := Lib.hid hp
  have HB := Lib.hid hb
  have HZ := Lib.hid hzt
  have HI := Lib.hid hif
  have HN := Lib.hid hnn
  clear hr hp hb hz hzt hif hnn
  unfold Deleted
  go_enter Tryz.func105, Tryz.ntmps105
  go_wp2_with fail
  (with_reducible refine HI.out.mono ?_)
  rintro e1 w1 ⟨r, rfl, hh, hb1⟩
  rcases hh with ⟨rfl, hno⟩ | ⟨i, hi, rfl, h1, h0⟩
  · have HNO := Lib.hid hno
    have HB1 := Lib.hid hb1
    clear hno hb1
    go_wp2
    go_ret
    refine ⟨_, rfl, ?_, HB1.out.mono (Nat.le_of_lt hbl)⟩
    rw [filter_none (xs := xs) (fun j hj => HNO.out j (by rw [HN.out] at hj; exact hj)), ← HN.out]
    exact rd_row fun t ht => ((HR.out.below HB1.out) t (by rw [HN.out] at ht; exact ht)).1
  · have HK := Lib.hid (Kept.start (p := p) (by rw [HN.out]; exact hi) h1 h0)
    have HR1 := Lib.hid (HR.out.below hb1)
    have HB1 := Lib.hid (hb1.mono (Nat.le_of_lt hbl))
    have hcl := fun (wr : World) (d : Nat → ByteArray) (k : Nat) (hk : k < n) (h : TRow wr b n d) (ty : TypeId) =>
      Lib.run_clear_slice wr 33 9 ty (.string ⟨#[]⟩) Tryz.underlying33 Tryz.zeroValue9 rfl rfl b k (n - k) (c - k) (by omega) (fun j hj => by rw [(h (k + j) (by omega)).1]; rfl) (fun j hj => (h (k + j) (by omega)).2)
    have HCL := Lib.hid hcl
    clear h1 h0 hb1 hcl
    go_wp2_with fail
    go_loopw [5, 6, 7] (fun u v _ wr => ∃ (k j : Nat) (d : Nat → ByteArray), u = .int .i64 (k : Int) ∧ v = .int .i64 (j : Int) ∧ Kept p xs k j d ∧ TRow wr b n d ∧ Below b w wr) (fun _ v _ _ => n - (intOf v).toNat)
    case atStart => exact ⟨i, i + 1, tel xs, rfl, by go_num, HK.out, HR1.out, HB1.out⟩
    case round =>
      obtain ⟨k, j, d, rfl, rfl, hk, hrow, hbr⟩ := hrel
      have hkj := hk.lt
      have hjn := hk.le
      rw [HN.out] at hjn
      have hkn : k < n := by omega
      have HKK := Lib.hid hk
      have HROW := Lib.hid hrow
      have HBR := Lib.hid hbr
      clear hk hrow hbr
      by_cases hlt : j < n
      · obtain ⟨x, hx⟩ : ∃ x, tel xs j = x := ⟨_, rfl⟩
        have hdj : d j = x := by rw [HKK.out.high j (Nat.le_refl _) (by rw [HN.out]; exact hlt), hx]
        obtain ⟨c0, -⟩ := HROW.out j hlt
        rw [hdj] at c0
        have hzx : x.size ≤ 9223372036854775807 := by rw [← hx]; exact HZ.out j hlt
        have HC := Lib.hid (HP.out wr x (HB.out.trans (HBR.out.mono hn0)) hzx)
        obtain ⟨q, hq⟩ : ∃ q, p x = q := ⟨_, rfl⟩
        rw [hq] at HC
        have HX := Lib.hid (And.intro hx hq)
        clear hx hzx hq hdj
        have hblw : b ≤ wr.heap.size := Nat.le_of_lt (cell_lt c0)
        cases q with
        | true =>
          go_wp2_with (go_at_fn g; (with_reducible refine HC.out.mono ?_); rintro e2 w2 ⟨rfl, hb2⟩; have HROW2 := Lib.hid (HROW.out.below hb2); have HB2 := Lib.hid (HBR.out.trans (hb2.mono hblw)); clear hb2)
          go_roundw
          case rel =>
            refine ⟨_, _, _, _, _, _, _, _, _, _, _, _, _, _, _, _, _, _, _, _, _, _, _, ?_, rfl⟩
            exact ⟨k, j + 1, d, rfl, by go_num, HKK.out.skip (by rw [HN.out]; exact hlt) (by rw [HX.out.1]; exact HX.out.2), HROW2.out, HB2.out⟩
          case measure => simp [intOf]; omega
        | false =>
          go_wp2_with (go_at_fn g; (with_reducible refine HC.out.mono ?_); rintro e2 w2 ⟨rfl, hb2⟩; have HROW2 := Lib.hid (HROW.out.below hb2); have HB2 := Lib.hid (HBR.out.trans (hb2.mono hblw)); clear hb2; obtain ⟨k0, f0⟩ := HROW2.out k hkn)
          go_roundw
          case rel =>
            refine ⟨_, _, _, _, _, _, _, _, _, _, _, _, _, _, _, _, _, _, _, _, _, _, _, ?_, rfl⟩
            exact ⟨k + 1, j + 1, _, by go_num, by go_num, HKK.out.keep (by rw [HN.out]; exact hlt) (by rw [HX.out.1]; exact HX.out.2), by rw [HX.out.1]; exact HROW2.out.set x (by omega), HB2.out.setCell (p := ⟨b, k, none⟩) (Nat.le_refl _) _⟩
          case measure => simp [intOf]; omega
      · obtain rfl : j = n := by omega
        have hq := HCL.out wr d k hkj HROW.out
        have hlen : ((xs.take xs.length).filter fun x => !p x).length = k := by rw [HN.out]; exact HKK.out.len
        have hlow := HKK.out.low
        rw [← HN.out] at hlow
        rw [List.take_length] at hlen hlow
        have HLEN := Lib.hid hlen
        have HLOW := Lib.hid hlow
        clear hlen hlow
        go_wp2
        go_ret
        refine ⟨_, rfl, ?_, belowCells (Nat.le_refl _) _ _ HBR.out⟩
        have e : (xs.filter fun x => !p x).length = k := HLEN.out
        rw [← e]
        refine rd_row fun t ht => ?_
        rw [e] at ht
        rw [World.cell?_setCells_out _ _ _ _ _ (fun _ _ => .inl (by rw [e]; exact ht)), (HROW.out t (by omega)).1, HLOW.out t ht]
set_option maxRecDepth 100000 in
set_option maxHeartbeats 4000000 in
theorem deleteFunc_nil (g : Nat) (lb : Array Value) (eg : ∀ args w, (callFunc g args).run Tryz.prog w = .ok (.enter g args) w) (p : ByteArray → Bool) (n0 : Nat) (w0 : World) (hp : PredB g lb p n0 w0) (w : World) (hb : Below n0 w0 w) (hn0 : n0 ≤ w.heap.size) :
    Calls Tryz.prog 105 #[.slice none 0 0, .func (.func g) #[] lb] w fun r w' => r = .returned (.slice none 0 0) ∧ Below w.heap.size w w' := by
  have hif := indexFunc_any g lb eg p n0 w0 hp none 0 0 (fun _ => ⟨#[]⟩) w (.inl rfl) (fun j hj => absurd hj (Nat.not_lt_zero _)) hb hn0 (by omega)
  have HI := Lib.hid hif
  clear hif hp hb
  go_enter Tryz.func105, Tryz.ntmps105
  go_wp2_with fail
  (with_reducible refine HI.out.mono ?_)
  rintro e1 w1 ⟨r, rfl, hh, hb1⟩
  rcases hh with ⟨rfl, -⟩ | ⟨i, hi, -⟩
  · go_wp2
    go_ret
    exact ⟨rfl, hb1⟩
  · exact absurd hi (Nat.not_lt_zero _)
end Bk
end Go.Proofs.YtghkalamlcfnnaaGreatDoor
end

section
/- package book: On. -/
namespace Go.Proofs.YtghkalamlcfnnaaGreatDoor
open Go Go.RowKit Go.Shelf Lmd
attribute [local go_sem] Oper.semAt_some
namespace Bk
open Evt Tp Rul Day Cand Er

/-- the date of an event's start -/
noncomputable def dt (e : Ev) : Int × Int × Int := open Classical in if h : ∃ p : Int × Int × Int, Cal.At e.st p.1 p.2.1 p.2.2 then h.choose else (0, 0, 0)
theorem dt_at {e : Ev} (h : badE e = 0) : Cal.At e.st (dt e).1 (dt e).2.1 (dt e).2.2 := by
  have hr := (badE_zero h).2.2.1
  have hex : ∃ p : Int × Int × Int, Cal.At e.st p.1 p.2.1 p.2.2 := by
    obtain ⟨y, m, d, ha⟩ := Cal.at_exists e.st hr.1 hr.2
    exact ⟨(y, m, d), ha⟩
  unfold dt
  rw [dif_pos hex]
  exact hex.choose_spec
/-- does an event cover a day -/
noncomputable def covD (e : Ev) (n : Int) : Bool := coversB e (dt e).1 (dt e).2.1 (dt e).2.2 n
theorem covers_e (e : Ev) (vd vs vm : Value) (dd : Int) (er : Nat → Addr) (w : World) (he : E7 w er) (hr : Rv w e vd vs vm) (hz : Size e) :
    Calls Tryz.prog 107 #[.agg (e.cells vd vs vm), .int .i64 dd] w fun r w' => r = .returned (.bool (covD e dd)) ∧ Below w.heap.size w w' :=
  covers_any e vd vs vm _ _ _ dd er w he hr hz dt_at
set_option maxRecDepth 100000 in
set_option maxHeartbeats 4000000 in
theorem on1_any (w : World) (B b m : Nat) (L : List Ev) (er : Nat → Addr) (p : Nat) (dd : Int) (x : ByteArray) (he : E7 w er) (h : Book w B b m L) (k0 : w.cell? ⟨p, 0, none⟩ = some (.pointer (some ⟨b, 0, none⟩))) (k1 : w.cell? ⟨p + 1, 0, none⟩ = some (.int .i64 dd)) (hx : x.size ≤ 9223372036854775807) :
    Calls Tryz.prog 106 #[.string x, .pointer (some ⟨p, 0, none⟩), .pointer (some ⟨p + 1, 0, none⟩)] w fun r w' => r = .returned (.bool (!covD (foundE x.data.toList L) dd)) ∧ Below w.heap.size w w' := by
  obtain ⟨D, hown, hT⟩ := h.map
  obtain ⟨ud, us, um, hl, hru⟩ := hT.look (m := m) x.data.toList
  have hz := foundE_fit h x.data.toList
  obtain ⟨f, hf⟩ : ∃ f, foundE x.data.toList L = f := ⟨_, rfl⟩
  rw [hf] at hl hru hz ⊢
  have hq0 := hl.one w _ x hown rfl hx
  have hq1 := hl.one w.drew _ x hown rfl hx
  have hb := cell1 h.box
  have hc := covers_e f ud us um dd er w.drew (he.below (below_drew (Below.refl _ w))) (hru.below (below_drew (Below.refl _ w))) hz
  obtain ⟨b1, d1, rfl⟩ := hru.d.shape
  obtain ⟨b2, d2, rfl⟩ := hru.s.shape
  obtain ⟨b3, d3, rfl⟩ := hru.m.shape
  have HC := Lib.hid hc
  clear hc he h hown hT hl hf hz hru
  go_enter Tryz.func106, Tryz.ntmps106
  go_upto_region 1 with fail
  go_region_with (first
    | ((with_reducible refine HC.out.mono ?_); rintro e1 w1 ⟨rfl, hb1⟩))
  all_goals (
    go_wp2
    go_ret
    exact ⟨rfl, (below_drew (Below.refl _ w)).trans hb1⟩)
theorem ids_found {L : List Ev} (ha : Asc L) (c : Ev → Bool) : (idsB L).filter (fun x => !(!c (foundE x.data.toList L))) = onB L c := by
  unfold idsB onB
  rw [List.filter_map]
  congr 1
  refine List.filter_congr fun e he => ?_
  show (!(!c (foundE (key e) L))) = c e
  rw [foundE_of ha he, Bool.not_not]
set_option maxRecDepth 100000 in
set_option maxHeartbeats 4000000 in
theorem on_any (w : World) (B b m : Nat) (L : List Ev) (er : Nat → Addr) (dd : Int) (he : E7 w er) (h : Book w B b m L) :
    Calls Tryz.prog 64 #[.pointer (some ⟨b, 0, none⟩), .int .i64 dd] w fun r w' => ∃ v, r = .returned v ∧ Tx.Rd w' v (onB L (covD · dd)) ∧ Below w.heap.size w w' := by
  obtain ⟨W, hW⟩ : ∃ W, (w.alloc (.cells #[.pointer (some ⟨b, 0, none⟩)] 25)).alloc (.cells #[.int .i64 dd] 3) = W := ⟨_, rfl⟩
  have hB : Below w.heap.size w W := by rw [← hW]; exact ((Below.refl _ w).alloc (Nat.le_refl _) _).alloc (by simp) _
  have hx0 : W.heap[w.heap.size]? = some (.cells #[.pointer (some ⟨b, 0, none⟩)] 25) := by rw [← hW]; exact (Below.heap_alloc _ _ _ (by simp)).trans (heap_new w _)
  have hx1 : W.heap[w.heap.size + 1]? = some (.cells #[.int .i64 dd] 3) := by
    rw [← hW]
    have h := heap_new (w.alloc (.cells #[.pointer (some ⟨b, 0, none⟩)] 25)) (.cells #[.int .i64 dd] 3)
    rwa [World.size_alloc] at h
  have hi := ids_any W B b m L (h.below hB)
  have hp : PredB 106 #[.pointer (some ⟨w.heap.size, 0, none⟩), .pointer (some ⟨w.heap.size + 1, 0, none⟩)] (fun x => !covD (foundE x.data.toList L) dd) W.heap.size W :=
    fun W' x hb hx => on1_any W' B b m L er w.heap.size dd x ((he.below hB).below hb) ((h.below hB).below hb) (cell_later hb (cell1 hx0)) (cell_later hb (cell1 hx1)) hx
  have hfew := h.few
  have hfit := h.fit
  have hasc := h.asc
  have k0 := cell1 hx0
  have HP := Lib.hid hp
  have HI := Lib.hid hi
  have HW := Lib.hid hW
  have HB := Lib.hid hB
  have HF := Lib.hid (And.intro hfit hasc)
  clear hp hi hW hB hx0 hx1 hfit hasc he h
  go_enter Tryz.func64, Tryz.ntmps64
  go_upto_region 1 with fail
  rw [HW.out]
  go_wp2_with fail
  (with_reducible refine HI.out.mono ?_)
  rintro e1 w1 ⟨v, rfl, hown, hb1⟩
  have HB1 := Lib.hid hb1
  rcases hown.2 with ⟨rfl, h0⟩ | ⟨g, cap, cur, rfl, hg, hh, hcap, hcm, hcs, ht⟩
  · have hL : L = [] := List.length_eq_zero_iff.1 h0
    subst hL
    have hdn := deleteFunc_nil 106 #[.pointer (some ⟨w.heap.size, 0, none⟩), .pointer (some ⟨w.heap.size + 1, 0, none⟩)] (enters_of Tryz.func106 (by kernel_rfl) rfl) _ W.heap.size W HP.out w1 hb1 hb1.size
    have HDN := Lib.hid hdn
    have k1 := cell_later hb1 k0
    clear hown hb1 h0 hdn k0
    go_wp2_with fail
    (with_reducible refine HDN.out.mono ?_)
    rintro e2 w2 ⟨rfl, hb2⟩
    go_wp2
    go_ret
    exact ⟨_, rfl, .inl ⟨rfl, _, _, rfl⟩, (HB.out.trans (HB1.out.mono HB.out.size)).trans (hb2.mono (Nat.le_trans HB.out.size HB1.out.size))⟩
  · have hlt : g < w1.heap.size := (Array.getElem?_eq_some_iff.1 hh).1
    have hidl : (idsB L).length = L.length := by simp [idsB]
    have hrow : TRow w1 g (idsB L).length (tel (idsB L)) := fun j hj => by
      have h1 : (cellsS (idsB L))[j]? = some (.string (tel (idsB L) j)) := by
        rw [tel_lt hj]; simp only [cellsS, List.getElem?_map, List.getElem?_eq_getElem hj]; rfl
      rw [← ht, List.getElem?_take_of_lt (by rw [hidl] at hj; omega)] at h1
      refine ⟨?_, by simp [World.frozen?, hh]⟩
      simp only [World.cell?, hh]
      simpa using h1
    have hdl := deleteFunc_row 106 #[.pointer (some ⟨w.heap.size, 0, none⟩), .pointer (some ⟨w.heap.size + 1, 0, none⟩)] (enters_of Tryz.func106 (by kernel_rfl) rfl) _ W.heap.size W HP.out g cap (idsB L) w1 hrow (by rw [hidl]; exact hcap) (fun x hx => by
      obtain ⟨e, he, rfl⟩ := List.mem_map.1 hx
      exact (HF.out.1 e he).id) hb1 hg hlt (by rw [hidl]; omega)
    rw [hidl, ids_found HF.out.2 (covD · dd)] at hdl
    unfold Deleted at hdl
    have HDL := Lib.hid hdl
    have HG := Lib.hid hg
    have k1 := cell_later hb1 k0
    clear hown hb1 hdl k0 hrow hh hcap hcm hcs ht hg hlt hidl
    go_wp2_with fail
    (with_reducible refine HDL.out.mono ?_)
    rintro e2 w2 ⟨v2, rfl, hr2, hb2⟩
    go_wp2
    go_ret
    have hs := HB.out.size
    have hg2 := HG.out
    exact ⟨_, rfl, hr2, (HB.out.trans (HB1.out.mono HB.out.size)).trans (hb2.mono (by omega))⟩
end Bk
end Go.Proofs.YtghkalamlcfnnaaGreatDoor
end

section
/- The closed fact booked: an event on a day. -/
namespace Go.Proofs.YtghkalamlcfnnaaGreatDoor
open Go Go.RowKit Go.Shelf Lmd
attribute [local go_sem] Oper.semAt_some
namespace Bk
open Evt Tp Rul Day Cand Er

theorem evL_b0 (y m d : Int) : evL b0 y m d = [7] := by
  unfold evL cands
  rw [if_pos (by show once.toList = _; rw [ByteArray.toList_eq])]
  rfl
theorem cov_b0 {d : Int} (h0 : 0 ≤ d) (h1 : d ≤ 73048) : covD b0 d = decide (d = 7) := by
  have hb := bad_b0
  have hf := fit_of hb (dt_at hb)
  unfold covD coversB
  rw [hb, Bool.eq_iff_iff, Bool.and_eq_true, cov_iff hf, decide_eq_true_eq, decide_eq_true_eq]
  have hlg : b0.lg = 1 := rfl
  rw [hlg]
  constructor
  · rintro ⟨_, _, x, h2, h3, h4⟩
    rcases occ_iff.1 h4 with ⟨h5, _⟩ | ⟨m, hm, _⟩
    · rw [evL_b0, List.mem_singleton] at h5; omega
    · cases hm
  · rintro rfl
    refine ⟨rfl, ⟨h0, h1⟩, 7, by omega, by omega, occ_iff.2 (.inl ⟨by rw [evL_b0]; exact List.mem_singleton.2 rfl, rfl⟩)⟩
theorem on_b0 (d : Int) (h0 : 0 ≤ d) (h1 : d ≤ 73048) : onB [b0] (covD · d) = if d = 7 then [⟨#[97]⟩] else [] := by
  unfold onB
  rw [List.filter_cons, cov_b0 h0 h1]
  by_cases h : d = 7
  · rw [if_pos (decide_eq_true h), if_pos h]; rfl
  · rw [if_neg (by rw [decide_eq_false h]; exact fun e => by cases e), if_neg h]; rfl
set_option maxRecDepth 100000 in
set_option maxHeartbeats 4000000 in
theorem booked_any (er : Nat → Addr) (w : World) (he : E7 w er) :
    Calls Tryz.prog 26 #[] w fun r w' => r = .returned (.bool true) ∧ Below w.heap.size w w' := by
  have HE := Lib.hid he
  have HN := Lib.hid (new_any w)
  clear he
  go_enter Tryz.func26, Tryz.ntmps26
  go_wp2_with fail
  (with_reducible refine HN.out.mono ?_)
  rintro e1 w1 ⟨rfl, hbk, hb1⟩
  have HBK := Lib.hid hbk
  have HB1 := Lib.hid hb1
  have HS := Lib.hid (small_any ⟨#[97]⟩ 7 w1)
  clear hbk hb1
  go_wp2_with fail
  (with_reducible refine HS.out.mono ?_)
  rintro e2 w2 ⟨rfl, hb2⟩
  have hpu := put_any w2 _ _ _ [] b0 (.slice none 0 0) (.slice none 0 0) (.slice none 0 0) er ((HE.out.below HB1.out).below hb2) (HBK.out.below hb2) ⟨.inl ⟨rfl, _, _, rfl⟩, .inl ⟨rfl, _, _, rfl⟩, .inl ⟨rfl, _, _, rfl⟩⟩ ⟨by decide, by decide, by decide, by decide, by decide⟩
  unfold PutP at hpu
  rw [put_b0.1, put_b0.2] at hpu
  simp only [errV] at hpu
  have HPU := Lib.hid hpu
  have HB2 := Lib.hid (HB1.out.trans (hb2.mono HB1.out.size))
  clear hpu hb2
  go_wp2_with fail
  (with_reducible refine HPU.out.mono ?_)
  rintro e3 w3 ⟨rfl, hbk3, hfar3⟩
  have HB3 := Lib.hid (HB2.out.trans (hfar3.below (fun k hk => by omega) HB2.out.size))
  have hg := get_any w3 _ _ _ [b0] ⟨#[97]⟩ hbk3 (by decide)
  have HG := Lib.hid hg
  have HK3 := Lib.hid hbk3
  clear hg hbk3 hfar3
  go_wp2_with fail
  (with_reducible refine HG.out.mono ?_)
  rintro e4 w4 ⟨v1, v2, v3, rfl, hr4, -, -, -, hb4⟩
  change Rv w4 b0 v1 v2 v3 at hr4
  obtain ⟨a1, c1, rfl⟩ := hr4.d.shape
  obtain ⟨a2, c2, rfl⟩ := hr4.s.shape
  obtain ⟨a3, c3, rfl⟩ := hr4.m.shape
  rw [show foundE (⟨#[97]⟩ : ByteArray).data.toList [b0] = b0 from rfl, show hasK (⟨#[97]⟩ : ByteArray).data.toList [b0] = true from rfl]
  have HB4 := Lib.hid (HB3.out.trans (hb4.mono HB3.out.size))
  have HK4 := Lib.hid (HK3.out.below hb4)
  clear hr4 hb4
  go_upto_region 5 with fail
  generalize hW5 : w4.alloc _ = W5
  have hb5 : Below w4.heap.size w4 W5 := by rw [← hW5]; exact (Below.refl _ w4).alloc (Nat.le_refl _) _
  have hx5 : W5.heap[w4.heap.size]? = some (.cells (b0.cells (.slice a1 b0.ru.ds.length c1) (.slice a2 b0.sk.length c2) (.slice a3 b0.mv.length c3)) 40) := by rw [← hW5]; exact heap_new w4 _
  obtain ⟨-, -, hc5, -⟩ := cells11 hx5
  have ho7 := on_any W5 _ _ _ [b0] er 7 ((HE.out.below HB4.out).below hb5) (HK4.out.below hb5)
  rw [on_b0 7 (by decide) (by decide), if_pos rfl] at ho7
  have HO7 := Lib.hid ho7
  have HB5 := Lib.hid (HB4.out.trans (hb5.mono HB4.out.size))
  have HK5 := Lib.hid (HK4.out.below hb5)
  clear hW5 hb5 ho7 hx5
  go_wp2_with fail
  (with_reducible refine HO7.out.mono ?_)
  rintro e6 w6 ⟨v6, rfl, hr6, hb6⟩
  have hrn : Tx.Rd (w6.alloc (.cells #[.string ⟨#[97]⟩] 9)) (.slice (some ⟨w6.heap.size, 0, none⟩) 1 1) [⟨#[97]⟩] := by
    refine .inr ⟨w6.heap.size, 0, 1, rfl, fun j x hx => ?_⟩
    cases j with
    | zero => cases hx; rw [Nat.zero_add]; exact cell1 (heap_new w6 _)
    | succ j => cases hx
  have hst := Tx.sameTexts_any (w6.alloc (.cells #[.string ⟨#[97]⟩] 9)) v6 (.slice (some ⟨w6.heap.size, 0, none⟩) 1 1) _ _ (hr6.below ((Below.refl _ w6).alloc (Nat.le_refl _) _)) hrn (by decide) (by decide)
  rw [decide_eq_true rfl] at hst
  have HST := Lib.hid hst
  have hb6' := hb6.alloc hb6.size (.cells #[.string ⟨#[97]⟩] 9)
  have HB6 := Lib.hid (HB5.out.trans (hb6'.mono HB5.out.size))
  have HK6 := Lib.hid (HK5.out.below hb6')
  clear hr6 hb6 hb6' hrn hst hc5
  go_wp2_with fail
  (with_reducible refine HST.out.mono ?_)
  rintro e7 w7 ⟨rfl, q7, rfl⟩
  have hd := below_draw (Below.refl (w6.alloc (.cells #[.string ⟨#[97]⟩] 9)).heap.size (w6.alloc (.cells #[.string ⟨#[97]⟩] 9))) q7
  generalize hW8 : (w6.alloc (.cells #[.string ⟨#[97]⟩] 9)).drewN q7 = W8
  rw [hW8] at hd
  have HB8 := Lib.hid (HB6.out.trans (hd.mono HB6.out.size))
  have ho8 := on_any W8 _ _ _ [b0] er 8 (HE.out.below HB8.out) (HK6.out.below hd)
  rw [on_b0 8 (by decide) (by decide), if_neg (by decide)] at ho8
  have HO8 := Lib.hid ho8
  clear hW8 hd ho8
  go_wp2_with fail
  (with_reducible refine HO8.out.mono ?_)
  rintro e9 w9 ⟨v9, rfl, hr9, hb9⟩
  obtain ⟨a9, c9, rfl⟩ := hr9.shape
  have HB9 := Lib.hid (HB8.out.trans (hb9.mono HB8.out.size))
  clear hr9 hb9
  go_wp2
  go_ret
  exact ⟨rfl, HB9.out⟩
end Bk
end Go.Proofs.YtghkalamlcfnnaaGreatDoor
end
