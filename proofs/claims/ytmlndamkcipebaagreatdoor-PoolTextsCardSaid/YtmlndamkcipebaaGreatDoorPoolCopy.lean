/- A pool's copy. -/
import Derived.Test.YtmlndamkcipebaaGreatDoorPooled
import Derived.Test.YtmlndamkcipebaaGreatDoorShelfClone
import Derived.Shelf.SlMaps.Clone
import Derived.Stop.RegionWithIn
namespace Go.Proofs.YtmlndamkcipebaaGreatDoor
open Go Go.RowKit Lmd
namespace Pl
open Rul Day Cand Tp

theorem cloneS_any (w : World) (base : Nat) (v : Value) (xs : List ByteArray) (h : w.ownsRow base 9 1 v xs.length (cellsS xs)) (hl : xs.length ≤ 1000000) :
    Calls Tryz.prog 40 #[v] w fun e w' => ∃ v', e = .returned v' ∧ w'.ownsRow w.heap.size 9 1 v' xs.length (cellsS xs) ∧ Below w.heap.size w w' := by
  rcases reads_ownS h rfl with ⟨rfl, rfl⟩ | ⟨g, cap, rfl, _, _, hc⟩
  · refine (Tryz.slices_Clone_string_nil 0 0 w).mono ?_
    rintro e w' ⟨rfl, rfl⟩
    exact ⟨_, rfl, ⟨rfl, .inl ⟨rfl, rfl⟩⟩, Below.refl _ _⟩
  · refine (Tryz.slices_Clone_string g 0 xs.length cap xs w (Nat.le_refl _) (by omega) (fun j hj => hc j _ (by rw [List.getD_eq_getElem?_getD, List.getElem?_eq_getElem hj]; rfl))).mono ?_
    rintro e w' ⟨v', rfl, ho, _, hb⟩
    rw [List.take_length] at ho
    exact ⟨v', rfl, ho, hb⟩
set_option maxRecDepth 100000 in
theorem cloneM_any {R : Value → Option (DataW Unit × List MemPlace)} (w : World) (m n : Nat) (D : DataW Unit) (hown : w.ownsMap Tryz.prog 9 R m n D) :
    Calls Tryz.prog 41 #[.map (some m)] w fun e w' => e = .returned (.map (some w.heap.size)) ∧ w'.ownsMap Tryz.prog 9 R w.heap.size n D ∧ Below w.heap.size w w' := by
  have hlt := hown.lt
  obtain ⟨es, clock, hb, F, hs, hD⟩ := hown
  have hq := run_eql_map_nil_sl (P := Tryz.prog) w 68 _ _ (some m) Tryz.underlying68
  have hx := @run_callFunc_extern Tryz.prog 77 _ Extern.MapsClone.clone Tryz.func77 (by kernel_rfl) (by kernel_rfl) (by kernel_rfl) (by kernel_rfl)
  have hy := run_maps_clone_sl (P := Tryz.prog) w 68 hb
  have hz := fun W => run_typeAssert_map_sl (P := Tryz.prog) W 68 20 _ _ (.map (some w.heap.size)) Tryz.underlying68
  have hB : Below w.heap.size w (w.alloc (.map es clock)) := (Below.refl _ w).alloc (Nat.le_refl _) _
  have HF := Lib.hid (show (w.alloc (.map es clock)).ownsMap Tryz.prog 9 R w.heap.size n D from ⟨es, clock, (MapKept.heap_alloc w _).1, F, hs, hD⟩)
  have HB := Lib.hid hB
  clear hB hb F hs hD hlt
  go_enter Tryz.func41, Tryz.ntmps41
  go_wp2
  go_ret
  exact ⟨rfl, HF.out, HB.out⟩
set_option maxRecDepth 100000 in
set_option maxHeartbeats 1000000 in
theorem copy_any (w : World) (base p m : Nat) (v : Value) (xs : List (List UInt8)) (h : Is w base p v m xs) :
    Calls Tryz.prog 11 #[.pointer (some ⟨p, 0, none⟩)] w fun e w' => ∃ p' v' m', e = .returned (.pointer (some ⟨p', 0, none⟩)) ∧ Is w' w.heap.size p' v' m' xs ∧ Below w.heap.size w w' := by
  have k0 : w.cell? ⟨p, 0, none⟩ = some v := cell_of h.row rfl
  have k1 : w.cell? ⟨p, 1, none⟩ = some (.map (some m)) := cell_of h.row rfl
  obtain ⟨a0, c0, rfl⟩ := ownsRow_slice h.own
  obtain ⟨D, hown, htl⟩ := h.map
  have hl : (xs.map mk).length = xs.length := by simp
  have hcs := fun W (hb : Below w.heap.size w W) => cloneS_any W base _ (xs.map mk) (by rw [hl]; exact (h.below hb).own) (by have := h.few; omega)
  rw [hl] at hcs
  have hcm := fun W (hb : Below w.heap.size w W) => cloneM_any W m xs.length D (hown.kept (row := none) ⟨hb.os, hb.tape, hb.output, hb.size, fun k hk _ => hb.block k hk⟩ (by simp))
  have HCS := Lib.hid hcs
  have HCM := Lib.hid hcm
  have H := Lib.hid h
  have HTL := Lib.hid htl
  clear hcs hcm h htl hown hl
  go_enter Tryz.func11, Tryz.ntmps11
  go_wp2_with fail
  go_region_with (first
    | (go_at_call 40; (with_reducible refine (HCS.out w.drew (below_drew (Below.refl _ w))).mono ?_); rintro e5 w5 ⟨v5, rfl, ho5, hb5⟩; obtain ⟨a5, c5, rfl⟩ := ownsRow_slice ho5; have g1 := cell_later hb5 (show w.drew.cell? ⟨p, 1, none⟩ = _ from k1); have HO5 := Lib.hid ho5; have HB5 := Lib.hid ((below_drew (Below.refl _ w)).trans hb5); have HM5 := Lib.hid (HCM.out w5 ((below_drew (Below.refl _ w)).trans hb5)); clear ho5 hb5)
    | (go_at_call 41; (with_reducible refine HM5.out.mono ?_); rintro e6 w6 ⟨rfl, hm6, hb6⟩; have HM6 := Lib.hid hm6; have HB6 := Lib.hid hb6; clear hm6 hb6))
  all_goals go_wp2_with fail
  all_goals go_ret
  all_goals
    have hx7 := heap_new w6 (.cells #[.slice a5 xs.length c5, .map (some w5.heap.size)] 70)
    have hb7 : Below w6.heap.size w6 (w6.alloc (.cells #[.slice a5 xs.length c5, .map (some w5.heap.size)] 70)) := (Below.refl _ w6).alloc (Nat.le_refl _) _
    have hs5 := HB5.out.size
    have hs6 := HB6.out.size
    have ho6 := own_later (own_later HO5.out HB6.out) hb7
    have hbf := (HB5.out.trans (HB6.out.mono hs5)).trans (hb7.mono (Nat.le_trans hs5 hs6))
    exact ⟨w6.heap.size, _, w5.heap.size, rfl, ⟨hx7, ho6, ⟨D, HM6.out.alloc _, HTL.out⟩, ⟨Nat.le_trans hs5 hs6, hs5⟩, H.out.few, H.out.small, H.out.once⟩, hbf⟩
end Pl
end Go.Proofs.YtmlndamkcipebaaGreatDoor
