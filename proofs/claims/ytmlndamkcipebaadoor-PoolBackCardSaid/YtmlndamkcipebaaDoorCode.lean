/- plain.Code at the errors of this program. -/
import Derived.Test.YtmlndamkcipebaaDoorIs
import Derived.Test.YtmlndamkcipebaaDoorAsHit
import Derived.Test.YtmlndamkcipebaaDoorFrame
import Derived.Lib.Hide
namespace Go.Proofs.YtmlndamkcipebaaDoor
open Go.RowKit
namespace Er
open Go.Proofs.YtmlndamkcipebaaDoor.Frame (Sent)

def tx (l : List UInt8) : List UInt8 := [108, 97, 109, 109, 97, 115, 116, 105, 100, 101, 58, 32] ++ l
/-- the eleven errors, each where its variable points; and the handle of the type error -/
structure Errs (w : World) (e : Nat → Addr) : Prop where
  s0 : Sent w 3 (tx [116, 101, 120, 116]) (e 0)
  s1 : Sent w 0 (tx [98, 111, 117, 110, 100]) (e 1)
  s2 : Sent w 1 (tx [115, 104, 97, 112, 101]) (e 2)
  s3 : Sent w 6 (tx [110, 97, 109, 101]) (e 3)
  s4 : Sent w 5 (tx [110, 111, 110, 101]) (e 4)
  s5 : Sent w 8 (tx [101, 120, 105, 115, 116]) (e 5)
  s6 : Sent w 2 (tx [102, 117, 108, 108]) (e 6)
  s7 : Sent w 7 (tx [111, 114, 100, 101, 114]) (e 7)
  s8 : Sent w 9 (tx [115, 116, 97, 108, 101]) (e 8)
  s9 : Sent w 10 (tx [99, 108, 97, 115, 104]) (e 9)
  s10 : Sent w 4 (tx [111, 102, 102]) (e 10)
  handle : w.cell? ⟨11, 0, none⟩ = some (.iface 198 (.agg #[.pointer (some ⟨20, 26, none⟩)]))

theorem Errs.below {w w' : World} {e : Nat → Addr} (h : Errs w e) (hb : Below w.heap.size w w') : Errs w' e :=
  ⟨h.s0.below hb, h.s1.below hb, h.s2.below hb, h.s3.below hb, h.s4.below hb, h.s5.below hb, h.s6.below hb, h.s7.below hb, h.s8.below hb, h.s9.below hb, h.s10.below hb, cell_later hb h.handle⟩
theorem Errs.draw {w : World} {e : Nat → Addr} (h : Errs w e) (n : Nat) : Errs (w.drewN n) e := h.below ⟨rfl, rfl, rfl, Nat.le_refl _, fun _ _ => rfl⟩

theorem Errs.row {w : World} {e : Nat → Addr} (h : Errs w e) (k : Nat) (hk : k < 11) : ∃ c t, w.heap[(e k).block]? = some (.cells c t (0, 0)) := by
  match k, hk with
  | 0, _ => exact h.s0.row
  | 1, _ => exact h.s1.row
  | 2, _ => exact h.s2.row
  | 3, _ => exact h.s3.row
  | 4, _ => exact h.s4.row
  | 5, _ => exact h.s5.row
  | 6, _ => exact h.s6.row
  | 7, _ => exact h.s7.row
  | 8, _ => exact h.s8.row
  | 9, _ => exact h.s9.row
  | 10, _ => exact h.s10.row
/-- the text behind each -/
def txt (k : Nat) : List UInt8 := tx (([[116, 101, 120, 116], [98, 111, 117, 110, 100], [115, 104, 97, 112, 101], [110, 97, 109, 101], [110, 111, 110, 101], [101, 120, 105, 115, 116], [102, 117, 108, 108], [111, 114, 100, 101, 114], [115, 116, 97, 108, 101], [99, 108, 97, 115, 104], [111, 102, 102]] : List (List UInt8)).getD k [])
theorem Errs.str {w : World} {e : Nat → Addr} (h : Errs w e) (k : Nat) (hk : k < 11) : ∃ s : ByteArray, w.cell? (e k) = some (.string s) ∧ s.data.toList = txt k := by
  match k, hk with
  | 0, _ => exact h.s0.str
  | 1, _ => exact h.s1.str
  | 2, _ => exact h.s2.str
  | 3, _ => exact h.s3.str
  | 4, _ => exact h.s4.str
  | 5, _ => exact h.s5.str
  | 6, _ => exact h.s6.str
  | 7, _ => exact h.s7.str
  | 8, _ => exact h.s8.str
  | 9, _ => exact h.s9.str
  | 10, _ => exact h.s10.str
theorem txt_inj : ∀ i, i < 11 → ∀ j, j < 11 → txt i = txt j → i = j := by decide
theorem Errs.ne {w : World} {e : Nat → Addr} (h : Errs w e) {i j : Nat} (hi : i < 11) (hj : j < 11) (hne : i ≠ j) : e i ≠ e j := by
  intro he
  obtain ⟨s, a1, a2⟩ := h.str i hi
  obtain ⟨s', b1, b2⟩ := h.str j hj
  rw [he, b1] at a1
  injection a1 with a1
  injection a1 with a1
  subst a1
  exact hne (txt_inj i hi j hj (a2.symm.trans b2))

/-- an error's value -/
abbrev ev (a : Addr) : Value := .iface 230 (.pointer (some a))
/-- the list that plain.Code goes through -/
abbrev evs (e : Nat → Addr) : Array Value := #[ev (e 0), ev (e 1), ev (e 2), ev (e 3), ev (e 4), ev (e 5), ev (e 6), ev (e 7), ev (e 8), ev (e 9), ev (e 10)]
theorem evs_at (e : Nat → Addr) (k : Nat) (hk : k < 11) : (evs e)[k]? = some (ev (e k)) := by
  match k, hk with
  | 0, _ => rfl
  | 1, _ => rfl
  | 2, _ => rfl
  | 3, _ => rfl
  | 4, _ => rfl
  | 5, _ => rfl
  | 6, _ => rfl
  | 7, _ => rfl
  | 8, _ => rfl
  | 9, _ => rfl
  | 10, _ => rfl

set_option maxHeartbeats 400000 in
theorem code_nil (w : World) : Calls Tryd.prog 84 #[.nilIface] w fun e w' => e = .returned (.tuple #[.int .i64 0, .int .i64 (-1)]) ∧ w = w' := by
  go_enter Tryd.func84, Tryd.ntmps84
  go_wp2
  go_ret2
  exact ⟨rfl, rfl⟩

theorem evs_cell (e : Nat → Addr) (w : World) (k : Nat) (hk : k < 11) : (w.alloc (.cells (evs e) 26)).cell? ⟨w.heap.size, k, none⟩ = some (ev (e k)) := by
  have h1 : (w.alloc (.cells (evs e) 26)).heap[w.heap.size]? = some (.cells (evs e) 26) := by
    show (w.heap.push _)[w.heap.size]? = _
    simp
  simp only [World.cell?, h1]
  exact evs_at e k hk

set_option maxRecDepth 100000 in
set_option maxHeartbeats 1000000 in
theorem code_sent (e : Nat → Addr) (k : Nat) (hk : k < 11) (w : World) (he : Errs w e) :
    Calls Tryd.prog 84 #[ev (e k)] w fun e' w' => e' = .returned (.tuple #[.int .i64 (k + 1), .int .i64 (-1)]) ∧ Below w.heap.size w w' := by
  have hb0 : Below w.heap.size w (w.alloc (.cells #[.pointer none] 107)) := (Below.refl _ w).alloc (Nat.le_refl _) _
  have he0 := he.below hb0
  have ha := as_miss (e k) ⟨w.heap.size, 0, none⟩ _ he0.handle
  have HA := Lib.hid ha
  clear ha
  go_enter Tryd.func84, Tryd.ntmps84
  go_wp2_with fail
  refine HA.out.mono ?_
  rintro e' w1 ⟨rfl, hb1⟩
  have he1 := he0.below hb1
  have g0 := he1.s0.cell
  have g1 := he1.s1.cell
  have g2 := he1.s2.cell
  have g3 := he1.s3.cell
  have g4 := he1.s4.cell
  have g5 := he1.s5.cell
  have g6 := he1.s6.cell
  have g7 := he1.s7.cell
  have g8 := he1.s8.cell
  have g9 := he1.s9.cell
  have g10 := he1.s10.cell
  have hb2 : Below w.heap.size w w1 := hb0.trans (hb1.mono (by simp))
  go_wp2_with fail
  have hcell := evs_cell e w1
  have hE : Errs (w1.alloc (.cells (evs e) 26)) e := he1.below ((Below.refl _ w1).alloc (Nat.le_refl _) _)
  have hbW : Below w.heap.size w (w1.alloc (.cells (evs e) 26)) := hb2.alloc hb2.size _
  generalize w1.alloc (.cells (evs e) 26) = W at *
  generalize w1.heap.size = B at *
  clear g0 g1 g2 g3 g4 g5 g6 g7 g8 g9 g10 he1 hb1 hb2 hb0 he0 HA he
  go_loop [3, 29] (fun a i => a = .int .i64 (-1) ∧ ∃ j : Nat, j ≤ k ∧ i = .int .i64 j) (fun _ i => 11 - (intOf i).toNat)
  case atStart => exact ⟨rfl, 0, Nat.zero_le _, rfl⟩
  case round =>
    obtain ⟨rfl, j, hj, rfl⟩ := hrel
    have hc := hcell j (by omega)
    have hj1 : (j : Int) < 11 := by omega
    clear hcell
    by_cases hlt : j = k
    · subst hlt
      have hI := Is_same (e j) W
      have HI := Lib.hid hI
      clear hI
      go_wp2_with (go_at_call 105; refine HI.out.mono ?_; rintro e' w' ⟨rfl, rfl⟩)
      go_ret2
      exact ⟨rfl, hbW⟩
    · obtain ⟨c1, t1, r1⟩ := hE.row k hk
      obtain ⟨c2, t2, r2⟩ := hE.row j (by omega)
      have hI := Is_other (e k) (e j) c1 c2 t1 t2 W (hE.ne hk (by omega) (by omega)) r1 r2
      have HI := Lib.hid hI
      clear hI r1 r2
      go_wp2_with (go_at_call 105; refine HI.out.mono ?_; rintro e' w' ⟨rfl, rfl⟩)
      go_round
      case rel => exact ⟨rfl, j + 1, by omega, by go_num⟩
      case measure => simp [intOf]; omega
theorem alloc4 (w : World) (a b c d : Obj) (t : Addr) (v : Value) (ht : t.block < w.heap.size) (B : Nat) (hB : B ≤ t.block) : Below B w (((((w.alloc a).alloc b).alloc c).alloc d).setCell t v) :=
  (((((Below.refl B w).alloc (by omega) _).alloc (by simp; omega) _).alloc (by simp; omega) _).alloc (by simp; omega) _).setCell hB _
/-- errors.As at an api.Fault, the target a box of the caller's own -/
theorem as_hit_box (f : Addr) (w : World) (hg : (w.alloc (.cells #[.pointer none] 107)).cell? ⟨11, 0, none⟩ = some (.iface 198 (.agg #[.pointer (some ⟨20, 26, none⟩)]))) :
    Calls Tryd.prog 104 #[.iface 107 (.pointer (some f)), .iface 152 (.pointer (some ⟨w.heap.size, 0, none⟩))] (w.alloc (.cells #[.pointer none] 107)) fun e w' => e = .returned (.bool true) ∧
      Below w.heap.size (w.alloc (.cells #[.pointer none] 107)) w' ∧ w'.cell? ⟨w.heap.size, 0, none⟩ = some (.pointer (some f)) ∧ w.heap.size < w'.heap.size := by
  have hc : (w.alloc (.cells #[.pointer none] 107)).cell? ⟨w.heap.size, 0, none⟩ = some (.pointer none) ∧ (w.alloc (.cells #[.pointer none] 107)).frozen? ⟨w.heap.size, 0, none⟩ = false := ⟨by simp, by simp⟩
  refine (as_hit f ⟨w.heap.size, 0, none⟩ (.pointer none) _ hg hc.1 hc.2).mono ?_
  rintro e w' ⟨rfl, rfl⟩
  refine ⟨rfl, alloc4 _ _ _ _ _ _ _ (by simp) _ (Nat.le_refl _), ?_, ?_⟩
  · refine World.cell?_setCell_same' _ _ _ ?_
    rw [World.cell?_alloc_lt _ _ _ (by simp; omega), World.cell?_alloc_lt _ _ _ (by simp; omega), World.cell?_alloc_lt _ _ _ (by simp; omega), World.cell?_alloc_lt _ _ _ (by simp), hc.1]
    rfl
  · simp [World.setCell]; omega

set_option maxRecDepth 100000 in
set_option maxHeartbeats 1000000 in
theorem code_fault (e : Nat → Addr) (k : Nat) (hk : k < 11) (f : Addr) (at' : Int) (w : World) (he : Errs w e) (h1 : w.cell? f = some (.int .i64 at')) (h2 : w.cell? ⟨f.block, f.off + 1, none⟩ = some (ev (e k))) :
    Calls Tryd.prog 84 #[.iface 107 (.pointer (some f))] w fun e' w' => e' = .returned (.tuple #[.int .i64 (k + 1), .int .i64 at']) ∧ Below w.heap.size w w' := by
  have hb0 : Below w.heap.size w (w.alloc (.cells #[.pointer none] 107)) := (Below.refl _ w).alloc (Nat.le_refl _) _
  have he0 := he.below hb0
  have ha := as_hit_box f w he0.handle
  have HA := Lib.hid ha
  clear ha
  go_enter Tryd.func84, Tryd.ntmps84
  go_wp2_with fail
  refine HA.out.mono ?_
  rintro e' w1 ⟨rfl, hb1, hbox, hz1⟩
  have hb2 : Below w.heap.size w w1 := hb0.trans hb1
  have he1 := he.below hb2
  have k1 := cell_later hb2 h1
  have k2 := cell_later hb2 h2
  clear h1 h2
  have g0 := he1.s0.cell
  have g1 := he1.s1.cell
  have g2 := he1.s2.cell
  have g3 := he1.s3.cell
  have g4 := he1.s4.cell
  have g5 := he1.s5.cell
  have g6 := he1.s6.cell
  have g7 := he1.s7.cell
  have g8 := he1.s8.cell
  have g9 := he1.s9.cell
  have g10 := he1.s10.cell
  go_wp2_with fail
  have hcell := evs_cell e w1
  have hE : Errs (w1.alloc (.cells (evs e) 26)) e := he1.below ((Below.refl _ w1).alloc (Nat.le_refl _) _)
  have hbW : Below w.heap.size w (w1.alloc (.cells (evs e) 26)) := hb2.alloc hb2.size _
  have k3 : (w1.alloc (.cells (evs e) 26)).cell? ⟨f.block, f.off + 1, none⟩ = some (ev (e k)) := cell_later ((Below.refl _ w1).alloc (Nat.le_refl _) _) k2
  clear k1 k2 hbox hz1
  generalize w1.alloc (.cells (evs e) 26) = W at *
  generalize w1.heap.size = B at *
  clear g0 g1 g2 g3 g4 g5 g6 g7 g8 g9 g10 he1 hb1 hb2 hb0 he0 HA he
  go_loop [3, 29] (fun a i => a = .int .i64 at' ∧ ∃ j : Nat, j ≤ k ∧ i = .int .i64 j) (fun _ i => 11 - (intOf i).toNat)
  case atStart => exact ⟨rfl, 0, Nat.zero_le _, rfl⟩
  case round =>
    obtain ⟨rfl, j, hj, rfl⟩ := hrel
    have hc := hcell j (by omega)
    have hj1 : (j : Int) < 11 := by omega
    clear hcell
    by_cases hlt : j = k
    · subst hlt
      have hI := Is_fault_same f (e j) W k3
      have HI := Lib.hid hI
      clear hI
      go_wp2_with (go_at_call 105; refine HI.out.mono ?_; rintro e' w' ⟨rfl, rfl⟩)
      go_ret2
      exact ⟨rfl, hbW⟩
    · obtain ⟨c1, t1, r1⟩ := hE.row k hk
      obtain ⟨c2, t2, r2⟩ := hE.row j (by omega)
      have hI := Is_fault_other f (e k) (e j) c1 c2 t1 t2 W k3 (hE.ne hk (by omega) (by omega)) r1 r2
      have HI := Lib.hid hI
      clear hI r1 r2
      go_wp2_with (go_at_call 105; refine HI.out.mono ?_; rintro e' w' ⟨rfl, rfl⟩)
      go_round
      case rel => exact ⟨rfl, j + 1, by omega, by go_num⟩
      case measure => simp [intOf]; omega
set_option maxRecDepth 100000 in
set_option maxHeartbeats 1000000 in
theorem code_other (e : Nat → Addr) (x : Addr) (cx : Array Value) (tx' : TypeId) (w : World) (he : Errs w e) (hx : ∀ k, k < 11 → x ≠ e k) (hr : w.heap[x.block]? = some (.cells cx tx' (0, 0))) :
    Calls Tryd.prog 84 #[ev x] w fun e' w' => e' = .returned (.tuple #[.int .i64 (-1), .int .i64 (-1)]) ∧ Below w.heap.size w w' := by
  have hb0 : Below w.heap.size w (w.alloc (.cells #[.pointer none] 107)) := (Below.refl _ w).alloc (Nat.le_refl _) _
  have he0 := he.below hb0
  have ha := as_miss x ⟨w.heap.size, 0, none⟩ _ he0.handle
  have HA := Lib.hid ha
  clear ha
  have HX := Lib.hid hx
  have HR := Lib.hid hr
  clear hx hr
  go_enter Tryd.func84, Tryd.ntmps84
  go_wp2_with fail
  refine HA.out.mono ?_
  rintro e' w1 ⟨rfl, hb1⟩
  have he1 := he0.below hb1
  have g0 := he1.s0.cell
  have g1 := he1.s1.cell
  have g2 := he1.s2.cell
  have g3 := he1.s3.cell
  have g4 := he1.s4.cell
  have g5 := he1.s5.cell
  have g6 := he1.s6.cell
  have g7 := he1.s7.cell
  have g8 := he1.s8.cell
  have g9 := he1.s9.cell
  have g10 := he1.s10.cell
  have hb2 : Below w.heap.size w w1 := hb0.trans (hb1.mono (by simp))
  go_wp2_with fail
  have hcell := evs_cell e w1
  have hx := HX.out
  have hr := HR.out
  have hr2 : (w1.alloc (.cells (evs e) 26)).heap[x.block]? = some (.cells cx tx' (0, 0)) := by
    have hlt : x.block < w.heap.size := by
      rcases Nat.lt_or_ge x.block w.heap.size with h | h
      · exact h
      · rw [Array.getElem?_eq_none h] at hr; cases hr
    rw [(hb2.alloc hb2.size _).block _ hlt]; exact hr
  have hE : Errs (w1.alloc (.cells (evs e) 26)) e := he1.below ((Below.refl _ w1).alloc (Nat.le_refl _) _)
  have hbW : Below w.heap.size w (w1.alloc (.cells (evs e) 26)) := hb2.alloc hb2.size _
  generalize w1.alloc (.cells (evs e) 26) = W at *
  generalize w1.heap.size = B at *
  clear g0 g1 g2 g3 g4 g5 g6 g7 g8 g9 g10 he1 hb1 hb2 hb0 he0 HA he hr
  go_loop [3, 29] (fun a i => a = .int .i64 (-1) ∧ ∃ j : Nat, j ≤ 11 ∧ i = .int .i64 j) (fun _ i => 11 - (intOf i).toNat)
  case atStart => exact ⟨rfl, 0, Nat.zero_le _, rfl⟩
  case round =>
    obtain ⟨rfl, j, hj, rfl⟩ := hrel
    by_cases hlt : j < 11
    · have hc := hcell j hlt
      have hj1 : (j : Int) < 11 := by omega
      obtain ⟨c2, t2, r2⟩ := hE.row j hlt
      have hI := Is_other x (e j) cx c2 tx' t2 W (hx j hlt) hr2 r2
      have HI := Lib.hid hI
      clear hI r2 hcell hx hr2
      go_wp2_with (go_at_call 105; refine HI.out.mono ?_; rintro e' w' ⟨rfl, rfl⟩)
      go_round
      case rel => exact ⟨rfl, j + 1, by omega, by go_num⟩
      case measure => simp [intOf]; omega
    · obtain rfl : j = 11 := by omega
      clear hcell hx hr2
      go_wp2
      go_ret2
      exact ⟨rfl, hbW⟩

end Er
end Go.Proofs.YtmlndamkcipebaaDoor
