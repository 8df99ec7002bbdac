/- slices.Sorted(maps.Keys(m)) at a calendar's map; Book.IDs. -/
import Derived.Test.YtkhkhbeolhhomaaGreatDoorBkW
import Derived.Test.YtkhkhbeolhhomaaGreatDoorShelf
import Derived.Shelf.SlIter.Nil
import Derived.Shelf.SortM.Plain
import Derived.Shelf.SortM.SortNone
import Derived.Ground.GgzProg
import Derived.Ground.SlgmProg
import Derived.Test.YtkhkhbeolhhomaaGreatDoorTexts
namespace Go.Proofs.YtkhkhbeolhhomaaGreatDoor
open Go Go.RowKit Go.Maps Go.Sort Go.Shelf Lmd
open Go.Proofs (encStr)
attribute [local go_sem] Oper.semAt_some
namespace Bk
open Evt Tp Rul Day Cand Er

/-- slices.Sort's two contracts, at the fence that asks nothing -/
theorem sorts (m : Nat) : AnyZ.SortsIn Tryz.prog Tryz.sortedS_ren Fence.wide m :=
  ⟨fun blk off cap ss W hH hblk hsz => callsIn_wide.2 (AnyM.slices_Sort_string Tryz.sortSm blk off cap ss W hH hblk hsz),
   fun p cap W => callsIn_wide.2 (AnyM.slices_Sort_string_none Tryz.sortSm p cap W)⟩
/-- maps.Keys: a function value over one new block that holds the map -/
theorem maps_Keys (mb : Option Nat) (W : World) : CallsIn Fence.wide 5 Tryz.prog 80 #[.map mb] W fun e w' => e = .returned (.func (.func 136) #[] #[.pointer (some ⟨W.heap.size, 0, none⟩)]) ∧ w' = W.alloc (.cells #[.map mb] 120) :=
  AnyZ.keys_in Tryz.keysEv Fence.wide 5 trivial rfl mb W
set_option maxHeartbeats 1000000 in
/-- slices.Sorted at what maps.Keys handed back -/
theorem sorted_Keys {H : Type} (b nn : Nat) (D0 : DataW H) (R : Value → Option (DataW H × List MemPlace)) (w : World) (hown : w.ownsMap Tryz.prog 9 R b nn D0) (hmax : Maps.size D0 ≤ maxLen) (hbytes : Maps.size D0 * 16 ≤ 140737488355328) :
    CallsIn Fence.wide 5 Tryz.prog 79 #[.func (.func 136) #[] #[.pointer (some ⟨w.heap.size, 0, none⟩)]] (w.alloc (.cells #[.map (some b)] 120)) fun e w' => ∃ (v : Value) (ss : List (List UInt8)), e = .returned v ∧ ss.Perm (strKeys D0) ∧
      w'.ownsRow (w.alloc (.cells #[.map (some b)] 120)).heap.size 9 1 v ss.length ((ss.mergeSort (fun x y => decide (x ≤ y))).map encStr) ∧ (v = .slice none 0 0 ↔ ss = []) ∧ Below (w.alloc (.cells #[.map (some b)] 120)).heap.size (w.alloc (.cells #[.map (some b)] 120)) w' := by
  have hbl := hown.lt
  have hseq : SeqGives Fence.wide 2 Tryz.prog 136 #[.pointer (some ⟨w.heap.size, 0, none⟩)] encStr (fun ss => ss.Perm (strKeys D0)) (Maps.size D0) (w.alloc (.cells #[.map (some b)] 120)) :=
    AnyZ.keys_gives (ρ := Tryz.keysEv_ren) { Tryz.keysEv with } Fence.wide _ trivial rfl (by omega) w.heap.size b nn D0 _ (by simp) (by simp) (by
      obtain ⟨es, clock, hb, Ft, hs, hD⟩ := hown
      exact ⟨es, clock, (Below.heap_alloc _ _ b hbl).trans hb, Ft, hs, hD⟩)
  exact AnyZ.sorted_in Tryz.sortedS Fence.wide 5 trivial trivial trivial trivial rfl (by omega) (sorts _) (enters_of Tryz.func135 (by kernel_rfl) rfl) 136 #[.pointer (some ⟨w.heap.size, 0, none⟩)] trivial (enters_of Tryz.func136 (by kernel_rfl) rfl) _ _ hmax hbytes _ hseq

theorem asc_nodup {L : List Ev} (h : Asc L) : (L.map key).Nodup :=
  List.pairwise_map.2 (h.imp fun {a b} (hl : key a < key b) (e : key a = key b) => lt_irrefl (key b) (by rw [e] at hl; exact hl))
/-- the keys of the map, sorted: the IDs -/
theorem keys_sorted {w : World} {B m n : Nat} {D : DataW Value} {L : List Ev} (hown : w.ownsMap Tryz.prog 9 asIs m n D) (h : Tells w B D L) (ha : Asc L) {ss : List (List UInt8)} (hp : ss.Perm (strKeys D)) :
    (ss.mergeSort (fun x y => decide (x ≤ y))).map encStr = cellsS (idsB L) ∧ ss.length = L.length := by
  obtain ⟨es, hD, hk⟩ := hown.keysOf
  have hT : Maps.Tidy D := hown.tidy lawS
  have h1 : (L.map key).Perm (strKeys D) := by
    subst hD
    obtain ⟨es', he', hne⟩ := hT
    obtain rfl : es = es' := by injection he'
    refine perm_strKeys hne (fun p hp => ?_) (asc_nodup ha) fun x => ?_
    · obtain ⟨k, hk⟩ := hk p hp
      obtain ⟨x, _, hx, _⟩ := Maps.keyOf_str Tryz.underlying9 hk
      exact ⟨x, hx⟩
    · rw [h.has, hasK_iff, List.mem_map]
  have h2 := hp.trans h1.symm
  have h3 : (L.map key).mergeSort leB = L.map key := by
    have tr : ∀ a b c : List UInt8, leB a b = true → leB b c = true → leB a c = true := fun a b c h1 h2 => by simp only [leB, decide_eq_true_eq] at *; exact List.le_trans h1 h2
    have tot : ∀ a b : List UInt8, (leB a b || leB b a) = true := fun a b => by simp only [leB, Bool.or_eq_true, decide_eq_true_eq]; exact List.le_total a b
    refine List.Perm.eq_of_pairwise (le := fun a b => leB a b = true) (fun a b _ _ h1 h2 => ?_) (List.pairwise_mergeSort tr tot _) ?_ (List.mergeSort_perm _ leB)
    · simp only [leB, decide_eq_true_eq] at h1 h2
      exact List.le_antisymm h1 h2
    · refine List.pairwise_map.2 (ha.imp fun {a b} hl => ?_)
      simp only [leB, decide_eq_true_eq]
      exact List.le_of_lt hl
  have h4 := mergeSort_of_perm h2
  refine ⟨?_, by have := h2.length_eq; simpa using this⟩
  show (ss.mergeSort leB).map encStr = _
  rw [h4, h3]
  simp [cellsS, idsB, encStr, key]
set_option maxRecDepth 100000 in
set_option maxHeartbeats 1000000 in
/-- the IDs of a book -/
theorem ids_any (w : World) (B b m : Nat) (L : List Ev) (h : Book w B b m L) :
    Calls Tryz.prog 16 #[.pointer (some ⟨b, 0, none⟩)] w fun e w' => ∃ v, e = .returned v ∧ w'.ownsRow w.heap.size 9 1 v L.length (cellsS (idsB L)) ∧ Below w.heap.size w w' := by
  obtain ⟨D, hown, hT⟩ := h.map
  have hk := fun ss => keys_sorted (ss := ss) hown hT h.asc
  have hfew := h.few
  have hmax : Maps.size D ≤ maxLen := by rw [hT.size]; simp only [maxLen]; omega
  have hbytes : Maps.size D * 16 ≤ 140737488355328 := by rw [hT.size]; omega
  have k0 : w.cell? ⟨b, 0, none⟩ = some (.map (some m)) := by simp [World.cell?, h.box]
  have HK := Lib.hid hk
  clear hk hT h hfew
  refine (callsIn_wide (n := 6)).1 ?_
  have hfK : Fence.wide.fn 80 := trivial
  have hfS : Fence.wide.fn 79 := trivial
  refine callsIn_of_wp Tryz.func16 rfl trivial ?_ rfl
  simp only [Tryz.ntmps16, List.size_toArray, List.length_cons, List.length_nil, Nat.reduceAdd, Nat.reduceSub, Array.replicate_succ, Array.replicate_zero, List.push_toArray, List.append_toArray, List.nil_append, List.cons_append]
  gi_wp2_with (first
    | (gi_at_call 80; refine (maps_Keys _ _).mono ?_; rintro e w' ⟨rfl, rfl⟩)
    | (gi_at_call 79; refine (sorted_Keys m L.length D asIs w hown hmax hbytes).mono ?_; rintro e w' ⟨v, ss, rfl, hS, hrow, hnil, hb⟩))
  go_ret
  obtain ⟨e1, e2⟩ := HK.out ss hS
  rw [e1, e2] at hrow
  exact ⟨v, rfl, ownsRow_base_a hrow (by simp), ((Below.refl _ w).alloc (Nat.le_refl _) _).trans (hb.mono (by simp))⟩
end Bk
end Go.Proofs.YtkhkhbeolhhomaaGreatDoor
