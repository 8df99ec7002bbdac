/- the reference's pool; poolOf. -/
import Derived.Test.YtmlndamkcipebaaDoorPooled
import Derived.Test.YtmlndamkcipebaaDoorLongTexts
namespace Go.Proofs.YtmlndamkcipebaaDoor
open Go Go.RowKit Lmd
namespace Rp
open Rul Day Cand Tp Pl Pk

/-- a model of a pool -/
structure RIs (w : World) (base p : Nat) (v : Value) (xs : List (List UInt8)) : Prop where
  row : w.heap[p]? = some (.cells #[v] 65 (0, 0))
  own : w.ownsRow base 9 1 v xs.length (cellsS (xs.map mk))
  ge : base ≤ p
  few : xs.length ≤ 1000
  small : ∀ s ∈ xs, s.length ≤ 10000
theorem RIs.below {w w' : World} {base p : Nat} {v : Value} {xs : List (List UInt8)} (h : RIs w base p v xs) (hb : Below w.heap.size w w') : RIs w' base p v xs :=
  ⟨row_below h.row hb, own_later h.own hb, h.ge, h.few, h.small⟩
/-- where a text stands (-1: nowhere) -/
def findI (xs : List (List UInt8)) (s : List UInt8) : Int := if s ∈ xs then (xs.idxOf s : Nat) else -1
theorem idx_first {xs : List (List UInt8)} {s : List UInt8} {k : Nat} (hk : xs[k]? = some s) (hn : s ∉ xs.take k) : xs.idxOf s = k := by
  obtain ⟨h1, h2⟩ := List.getElem?_eq_some_iff.1 hk
  have e : xs = xs.take k ++ s :: xs.drop (k + 1) := by
    rw [← h2, ← List.drop_eq_getElem_cons h1, List.take_append_drop]
  rw [e, List.idxOf_append, if_neg hn, List.idxOf_cons_self, List.length_take]
  omega
set_option maxRecDepth 100000 in
set_option maxHeartbeats 1000000 in
theorem rfind_any (w : World) (base p : Nat) (v : Value) (xs : List (List UInt8)) (s : List UInt8) (h : RIs w base p v xs) :
    Calls Tryd.prog 92 #[.pointer (some ⟨p, 0, none⟩), .string (mk s)] w fun er w' => er = .returned (.int .i64 (findI xs s)) ∧ ∃ q, w' = w.drewN q := by
  have k0 : w.cell? ⟨p, 0, none⟩ = some v := cell_of h.row rfl
  obtain ⟨a0, c0, rfl⟩ := ownsRow_slice h.own
  have hfew := h.few
  have hrd := reads_ownS h.own (by simp)
  have HRD := Lib.hid hrd
  clear h hrd
  go_enter Tryd.func92, Tryd.ntmps92
  go_wp2_with fail
  go_loopw [5] (fun i wr => ∃ k q : Nat, i = .int .i64 k ∧ k ≤ xs.length ∧ s ∉ xs.take k ∧ wr = w.drewN q) (fun i _ => xs.length - (intOf i).toNat)
  case atStart => exact ⟨0, 0, rfl, Nat.zero_le _, by simp, rfl⟩
  case round =>
    obtain ⟨k, q, rfl, hk, hn, rfl⟩ := hrel
    by_cases hlt : k < xs.length
    · obtain ⟨t, ht⟩ : ∃ t, xs[k]? = some t := ⟨_, List.getElem?_eq_getElem hlt⟩
      have hi1 : (k : Int) < (xs.length : Int) := by omega
      rcases HRD.out with ⟨h1, _⟩ | ⟨g, cap, h1, _, _, h2⟩
      · have : xs = [] := by simpa using h1
        subst this
        simp at hlt
      · have c1 := h2 k (mk t) (by rw [List.getElem?_map, ht]; rfl)
        rw [Nat.zero_add] at c1
        have hl : (xs.map mk).length = xs.length := by simp
        rw [hl] at h1
        obtain ⟨rfl, rfl⟩ : a0 = some ⟨g, 0, none⟩ ∧ c0 = cap := by cases h1; exact ⟨rfl, rfl⟩
        have HT := Lib.hid ht
        have HN := Lib.hid hn
        clear ht hn h1 h2 hl
        by_cases e : t = s
        · subst e
          go_wp2_with fail
          go_ret
          refine ⟨?_, _, rfl⟩
          have hm : t ∈ xs := List.mem_of_getElem? HT.out
          unfold findI
          rw [if_pos hm, idx_first HT.out HN.out]; rfl
        · have e2 : (t == s) = false := by simpa using e
          have e3 : ((mk t).toList == (mk s).toList) = false := by rw [toListMk, toListMk]; exact e2
          have E := Lib.hid e
          clear e
          go_wp2_with fail
          go_roundw
          case rel =>
            refine ⟨k + 1, _, by go_num, by omega, ?_, rfl⟩
            intro hy
            obtain ⟨h3, h4⟩ := List.getElem?_eq_some_iff.1 HT.out
            rw [List.take_succ_eq_append_getElem h3, h4, List.mem_append] at hy
            rcases hy with hy | hy
            · exact HN.out hy
            · rw [List.mem_singleton] at hy; exact E.out hy.symm
          case measure => simp [intOf]; omega
    · have hi1 : ¬ (k : Int) < (xs.length : Int) := by omega
      have HN := Lib.hid hn
      have HK := Lib.hid (show k = xs.length by omega)
      clear hn
      go_wp2_with fail
      go_ret
      refine ⟨?_, _, rfl⟩
      have h := HN.out
      rw [HK.out, List.take_length] at h
      unfold findI
      rw [if_neg h]; rfl
/-- what lies behind a put to a model -/
def RPutPost (w : World) (base p : Nat) (v : Value) (xs : List (List UInt8)) (s : List UInt8) (er : Ending) (w' : World) : Prop :=
  ∃ v', er = .returned (.tuple #[.int .i64 (putN xs s : Nat), .int .i64 (putC xs s : Nat)]) ∧ RIs w' base p v' (putL xs s) ∧ Far (fun k => k = p ∨ some k = v.ownBlock) w w' ∧ (v'.ownBlock = v.ownBlock ∨ ∃ k, v'.ownBlock = some k ∧ w.heap.size ≤ k)
theorem own_ne_ref {w : World} {base p n : Nat} {v : Value} {xs : List Value} {cs : Array Value} {fz : Nat × Nat} (h : w.ownsRow base 9 1 v n xs) (hr : w.heap[p]? = some (.cells cs 65 fz)) : v.ownBlock ≠ some p := by
  rcases h.2 with ⟨rfl, _⟩ | ⟨g, cap, cur, rfl, _, hr', _⟩
  · simp [Value.ownBlock]
  · intro e
    obtain rfl : g = p := by simpa [Value.ownBlock] using e
    rw [hr'] at hr
    have ht : 9 = 65 := by injection hr with e1; injection e1
    revert ht; decide
set_option maxRecDepth 100000 in
set_option maxHeartbeats 1000000 in
theorem rput_any (w : World) (base p : Nat) (v : Value) (xs : List (List UInt8)) (s : List UInt8) (h : RIs w base p v xs) (hs0 : s.length ≤ 9223372036854775807) :
    Calls Tryd.prog 65 #[.pointer (some ⟨p, 0, none⟩), .string (mk s)] w (RPutPost w base p v xs s) := by
  obtain ⟨i0, hi0, hz0, hz1, hz2⟩ := info_parts Pl.string_info
  have hf := rfind_any w base p v xs s h
  have k0 : w.cell? ⟨p, 0, none⟩ = some v := cell_of h.row rfl
  obtain ⟨a0, c0, rfl⟩ := ownsRow_slice h.own
  obtain ⟨S, hS⟩ : ∃ S, mk s = S := ⟨_, rfl⟩
  have hsz : S.size = s.length := by rw [← hS]; rfl
  rw [hS] at hf ⊢
  have HS := Lib.hid hS
  have H := Lib.hid h
  have HF := Lib.hid hf
  clear hS h hf
  by_cases hbig : 10000 < s.length
  · have hb1 : (10000 : Int) < (S.size : Int) := by omega
    have hc : putC xs s = 2 ∧ putN xs s = 0 ∧ putL xs s = xs := by unfold putC putN putL; rw [if_pos hbig, if_pos hbig, if_pos hbig]; exact ⟨rfl, rfl, rfl⟩
    have HC := Lib.hid hc
    clear hc hbig hsz
    go_enter Tryd.func65, Tryd.ntmps65
    go_wp2
    go_ret2
    obtain ⟨c1, c2, c3⟩ := HC.out
    unfold RPutPost
    rw [c1, c2, c3]
    exact ⟨_, rfl, H.out, Far.refl _ w, .inl rfl⟩
  · have hb1 : ¬ (10000 : Int) < (S.size : Int) := by omega
    have HBIG := Lib.hid hbig
    clear hbig
    by_cases hm : s ∈ xs
    · have hfi : findI xs s = ((xs.idxOf s : Nat) : Int) := by unfold findI; rw [if_pos hm]
      have hc : putC xs s = 0 ∧ putN xs s = xs.idxOf s ∧ putL xs s = xs := by unfold putC putN putL; rw [if_neg HBIG.out, if_neg HBIG.out, if_neg HBIG.out, if_pos hm, if_pos hm, if_pos hm]; exact ⟨rfl, rfl, rfl⟩
      rw [hfi] at HF
      have HC := Lib.hid hc
      obtain ⟨N, hN⟩ : ∃ N, xs.idxOf s = N := ⟨_, rfl⟩
      rw [hN] at HF HC
      clear hc hsz hm hfi hN
      go_enter Tryd.func65, Tryd.ntmps65
      go_wp2_with fail
      (with_reducible refine HF.out.mono ?_)
      rintro e1 w1 ⟨rfl, q, rfl⟩
      go_wp2
      go_ret2
      obtain ⟨c1, c2, c3⟩ := HC.out
      unfold RPutPost
      rw [c1, c2, c3]
      exact ⟨_, rfl, H.out.below (below_draw (Below.refl _ w) _), far_of (below_draw (Below.refl _ w) _), .inl rfl⟩
    · have hfi : findI xs s = -1 := by unfold findI; rw [if_neg hm]
      rw [hfi] at HF
      clear hfi
      by_cases hful : 1000 ≤ xs.length
      · have hf1 : (1000 : Int) ≤ (xs.length : Int) := by omega
        have hc : putC xs s = 7 ∧ putN xs s = 0 ∧ putL xs s = xs := by unfold putC putN putL; rw [if_neg HBIG.out, if_neg HBIG.out, if_neg HBIG.out, if_neg hm, if_neg hm, if_neg hm, if_pos hful, if_pos hful, if_pos hful]; exact ⟨rfl, rfl, rfl⟩
        have HC := Lib.hid hc
        clear hc hsz hm hful
        go_enter Tryd.func65, Tryd.ntmps65
        go_wp2_with fail
        (with_reducible refine HF.out.mono ?_)
        rintro e1 w1 ⟨rfl, q, rfl⟩
        go_wp2
        go_ret2
        obtain ⟨c1, c2, c3⟩ := HC.out
        unfold RPutPost
        rw [c1, c2, c3]
        exact ⟨_, rfl, H.out.below (below_draw (Below.refl _ w) _), far_of (below_draw (Below.refl _ w) _), .inl rfl⟩
      · have hf1 : ¬ (1000 : Int) ≤ (xs.length : Int) := by omega
        have HFUL := Lib.hid hful
        have hlen : xs.length < 1000 := by omega
        clear hful
        go_enter Tryd.func65, Tryd.ntmps65
        go_wp2_with fail
        (with_reducible refine HF.out.mono ?_)
        rintro e1 w1 ⟨rfl, q, rfl⟩
        have hrow1 : (w.drewN q).heap[p]? = some (.cells #[.slice a0 xs.length c0] 65 (0, 0)) := row_below H.out.row (below_draw (Below.refl _ w) q)
        have hor1 : (w.drewN q).ownsRow base 9 1 (.slice a0 xs.length c0) xs.length (cellsS (xs.map mk)) := own_later H.out.own (below_draw (Below.refl _ w) q)
        have hbx : Below (w.drewN q).heap.size (w.drewN q) ((w.drewN q).alloc (.cells #[.string S] 9)) := (Below.refl _ _).alloc (Nat.le_refl _) _
        have hbase : base ≤ w.heap.size := Nat.le_trans H.out.ge (Nat.le_of_lt (Array.getElem?_eq_some_iff.1 H.out.row).1)
        have HR1 := Lib.hid hrow1
        have HO1 := Lib.hid hor1
        have HBX := Lib.hid hbx
        have HBASE := Lib.hid hbase
        clear hrow1 hor1 hbx hbase HF
        go_wp2_with (first
          | (at_builtin
             refine wpList_append_own_at _ rfl (.tmp 26) (.tmp 28) _ rfl base 9 i0 _ 1 16 Tryd.underlying22 hi0 hz0 hz1 hz2 rfl (by omega) (.slice a0 xs.length c0) xs.length (cellsS (xs.map mk)) rfl
               (HO1.out.alloc _) ⟨(w.drewN q).heap.size, 0, none⟩ 1 1 [.string S] rfl rfl (cell_one_new _ _ _) (fun u hu => by simp at hu; subst hu; rfl) (by simp only [maxLen]; omega) (by omega) (by simp; have := HBASE.out; omega) ?_
             intro v1 wb hown' hg2 hnil hloc
             obtain ⟨a1, c1, e1⟩ := ownsRow_slice hown'
             subst e1
             have hrb : wb.heap[p]? = some (.cells #[.slice a0 xs.length c0] 65 (0, 0)) := by
               have hr2 := row_below HR1.out HBX.out
               rw [hg2.block p (Array.getElem?_eq_some_iff.1 hr2).1 (fun e => own_ne_ref (HO1.out.alloc _) hr2 e.symm)]; exact hr2
             have b0 : wb.frozen? ⟨p, 0, none⟩ = false := by simp [World.frozen?, hrb]
             have b1 : wb.cell? ⟨p, 0, none⟩ = some (.slice a0 xs.length c0) := cell_of hrb rfl
             have HRB := Lib.hid hrb
             have HOB := Lib.hid hown'
             have HG2 := Lib.hid hg2
             have HLOC := Lib.hid hloc
             clear hown' hg2 hnil hloc hrb))
        go_ret2
        have hc : putC xs s = 0 ∧ putN xs s = xs.length ∧ putL xs s = xs ++ [s] := by unfold putC putN putL; rw [if_neg HBIG.out, if_neg HBIG.out, if_neg HBIG.out, if_neg hm, if_neg hm, if_neg hm, if_neg HFUL.out, if_neg HFUL.out, if_neg HFUL.out]; exact ⟨rfl, rfl, rfl⟩
        obtain ⟨r1, r2, r3⟩ := hc
        unfold RPutPost
        rw [r1, r2, r3]
        have hcs : cellsS ((xs ++ [s]).map mk) = cellsS (xs.map mk) ++ [.string S] := by rw [← HS.out]; simp [cellsS]
        refine ⟨_, ?_, ⟨row_set HRB.out 0 _, ?_, H.out.ge, ?_, ?_⟩, ?_, ?_⟩
        · simp
        · rw [hcs, List.length_append]
          exact own_set HOB.out (own_ne_ref HOB.out HRB.out)
        · rw [List.length_append, List.length_singleton]; omega
        · intro t ht
          rcases List.mem_append.1 ht with ht | ht
          · exact H.out.small t ht
          · have := HBIG.out
            rw [List.mem_singleton] at ht; subst ht; omega
        · refine ((far_of ((below_draw (Below.refl _ w) q).trans HBX.out)).trans ⟨HG2.out.os, HG2.out.tape, HG2.out.output, HG2.out.size, fun k hk hs => HG2.out.block k hk (fun e => hs (.inr e))⟩).set (p := ⟨p, 0, none⟩) (.inl rfl) _
        · rcases HLOC.out with h | h
          · exact .inl h
          · refine .inr ⟨_, h, ?_⟩
            have : w.heap.size ≤ (w.drewN q).heap.size := (below_draw (Below.refl w.heap.size w) q).size
            rw [World.size_alloc]; omega
end Rp
end Go.Proofs.YtmlndamkcipebaaDoor
namespace Go.Proofs.YtmlndamkcipebaaDoor
open Go Go.RowKit Lmd
namespace Rp
open Rul Day Cand Tp Pl

/-- texts put one behind the other -/
def putAll (L : List (List UInt8)) : List (List UInt8) := L.foldl putL []
theorem putAll_snoc (L : List (List UInt8)) (s : List UInt8) : putAll (L ++ [s]) = putL (putAll L) s := by simp [putAll, List.foldl_append]
theorem putL_sub {xs : List (List UInt8)} {s t : List UInt8} (h : t ∈ putL xs s) : t ∈ xs ∨ t = s := by
  unfold putL at h
  split at h
  · exact .inl h
  · split at h
    · exact .inl h
    · split at h
      · exact .inl h
      · simpa using h
theorem putL_le (xs : List (List UInt8)) (s : List UInt8) : (putL xs s).length ≤ xs.length + 1 := by
  unfold putL
  split
  · omega
  · split
    · omega
    · split
      · omega
      · simp
theorem fold_sub : ∀ (L xs : List (List UInt8)), (∀ t ∈ L.foldl putL xs, t ∈ xs ∨ t ∈ L) ∧ (L.foldl putL xs).length ≤ xs.length + L.length
  | [], xs => ⟨fun t h => .inl h, by simp⟩
  | s :: L, xs => by
    obtain ⟨h1, h2⟩ := fold_sub L (putL xs s)
    refine ⟨fun t ht => ?_, ?_⟩
    · rcases h1 t ht with h | h
      · rcases putL_sub h with h | h
        · exact .inl h
        · exact .inr (by rw [h]; simp)
      · exact .inr (by simp [h])
    · have := putL_le xs s
      rw [List.length_cons]
      simp only [List.foldl_cons]
      omega
theorem putAll_fit (L : List (List UInt8)) : (∀ t ∈ putAll L, t ∈ L) ∧ (putAll L).length ≤ L.length := by
  obtain ⟨h1, h2⟩ := fold_sub L []
  exact ⟨fun t ht => by rcases h1 t ht with h | h; · simp at h
                        · exact h, by simpa [putAll] using h2⟩
theorem RIs.far {w w' : World} {base p : Nat} {v : Value} {xs : List (List UInt8)} {S : Nat → Prop} (h : RIs w base p v xs) (hf : Far S w w') (h1 : ¬ S p) (h2 : ∀ g, v.ownBlock = some g → ¬ S g) : RIs w' base p v xs := by
  refine ⟨?_, own_far2 h.own hf (fun g hg _ => h2 g hg), h.ge, h.few, h.small⟩
  rw [hf.block p (Array.getElem?_eq_some_iff.1 h.row).1 h1]; exact h.row
theorem Is.far {w w' : World} {base p m : Nat} {v : Value} {xs : List (List UInt8)} {S : Nat → Prop} (h : Pl.Is w base p v m xs) (hf : Far S w w') (h1 : ¬ S p) (h2 : ¬ S m) (h3 : ∀ g, v.ownBlock = some g → ¬ S g) : Pl.Is w' base p v m xs := by
  obtain ⟨D, ⟨es, clock, hb, hr⟩, hD⟩ := h.map
  refine ⟨?_, own_far2 h.own hf (fun g hg _ => h3 g hg), ⟨D, ⟨es, clock, ?_, hr⟩, hD⟩, h.ge, h.few, h.small, h.once⟩
  · rw [hf.block p (Array.getElem?_eq_some_iff.1 h.row).1 h1]; exact h.row
  · rw [hf.block m (Array.getElem?_eq_some_iff.1 hb).1 h2]; exact hb
theorem rows_ne {w : World} {p q : Nat} {c d : Array Value} {f g : Nat × Nat} (h1 : w.heap[p]? = some (.cells c 103 f)) (h2 : w.heap[q]? = some (.cells d 65 g)) : p ≠ q := by
  rintro rfl
  rw [h1] at h2
  have ht : 103 = 65 := by injection h2 with e1; injection e1
  revert ht; decide
/-- a pool and its model lie apart -/
def Apart (v v2 : Value) : Prop := ∀ g, v.ownBlock = some g → v2.ownBlock ≠ some g
/-- the state of the loop of poolOf -/
structure PoAt (L : List (List UInt8)) (w : World) (p m p2 k : Nat) (v v2 : Value) (W : World) : Prop where
  pl : Pl.Is W w.heap.size p v m (putAll (L.take k))
  rl : RIs W w.heap.size p2 v2 (putAll (L.take k))
  low : Below w.heap.size w W
  ap : Apart v v2
  le : k ≤ L.length
/-- what lies behind poolOf -/
def PoPost (L : List (List UInt8)) (w : World) (er : Ending) (w' : World) : Prop :=
  ∃ p v m p2 v2, er = .returned (.tuple #[.pointer (some ⟨p, 0, none⟩), .pointer (some ⟨p2, 0, none⟩)]) ∧ Pl.Is w' w.heap.size p v m (putAll L) ∧ RIs w' w.heap.size p2 v2 (putAll L) ∧ Below w.heap.size w w'
set_option maxRecDepth 100000 in
set_option maxHeartbeats 1000000 in
theorem poolOf_any (X : List ByteArray) (lv : Value) (e : Nat → Addr) (w : World) (h : EQ w e) (hr : Tx.Rd w lv X) (hx : Pk.Short X) :
    Calls Tryd.prog 33 #[lv] w (PoPost (X.map (·.data.toList)) w) := by
  obtain ⟨a0, c0, rfl⟩ := hr.shape
  have hn := new_any w
  obtain ⟨L, hL⟩ : ∃ L, X.map (·.data.toList) = L := ⟨_, rfl⟩
  have hLl : L.length = X.length := by rw [← hL]; simp
  have hX20 := hx.1
  rw [hL]
  have HN := Lib.hid hn
  have HE := Lib.hid h
  have HR := Lib.hid hr
  have HX := Lib.hid hx
  have HL := Lib.hid hL
  have HLL := Lib.hid hLl
  clear hn h hr hx hL hLl
  go_enter Tryd.func33, Tryd.ntmps33
  go_wp2_with fail
  (with_reducible refine HN.out.mono ?_)
  rintro e1 w1 ⟨p, v, m, rfl, his, hb1⟩
  obtain ⟨W2, hW2⟩ : ∃ W2, w1.alloc (.cells #[.slice none 0 0] 65) = W2 := ⟨_, rfl⟩
  have hb2 : Below w1.heap.size w1 W2 := by rw [← hW2]; exact (Below.refl _ w1).alloc (Nat.le_refl _) _
  have hx2 := heap_new w1 (.cells #[.slice none 0 0] 65)
  rw [hW2] at hx2
  have hat0 : PoAt L w p m w1.heap.size 0 v (.slice none 0 0) W2 := ⟨his.below hb2, ⟨hx2, ⟨rfl, .inl ⟨rfl, rfl⟩⟩, hb1.size, by simp [putAll], by simp [putAll]⟩, hb1.trans (hb2.mono hb1.size), fun g _ => by simp [Value.ownBlock], Nat.zero_le _⟩
  have HAT0 := Lib.hid hat0
  have HW2 := Lib.hid hW2
  clear his hb1 hb2 hx2 hat0 hW2 HN
  go_wp2_with fail
  rw [HW2.out]
  go_loopw [6] (fun i wr => ∃ (k : Nat) (v' v2 : Value), i = .int .i64 k ∧ PoAt L w p m w1.heap.size k v' v2 wr) (fun i _ => L.length - (intOf i).toNat)
  case atStart => exact ⟨0, v, _, rfl, HAT0.out⟩
  case round =>
    obtain ⟨k, v', v2, rfl, hat⟩ := hrel
    have hkl := hat.le
    have hll := HLL.out
    by_cases hlt : k < X.length
    · obtain ⟨b0, o0, c1, e1, hc⟩ := HR.out.at (by intro h; rw [h] at hlt; exact absurd hlt (Nat.not_lt_zero _))
      obtain ⟨rfl, rfl⟩ : a0 = some ⟨b0, o0, none⟩ ∧ c0 = c1 := by cases e1; exact ⟨rfl, rfl⟩
      obtain ⟨s, hs⟩ : ∃ s, L[k]? = some s := ⟨_, List.getElem?_eq_getElem (by omega)⟩
      have hXk : X[k]? = some (mk s) := by
        have hj := hs
        rw [← HL.out, List.getElem?_map] at hj
        cases hx : X[k]? with
        | none => rw [hx] at hj; cases hj
        | some x => rw [hx] at hj; cases hj; rw [← mk_self x]
      have hcl : ∀ (W : World), Below w.heap.size w W → W.cell? ⟨b0, o0 + k, none⟩ = some (.string (mk s)) := fun W hb => cell_later hb (hc k _ hXk)
      have k1 := hcl wr hat.low
      have hi1 : (k : Int) < (X.length : Int) := by omega
      have hsz : s.length ≤ 150 := HX.out.2 _ (List.mem_of_getElem? hXk)
      have hts : putAll (L.take (k + 1)) = putL (putAll (L.take k)) s := by
        obtain ⟨h1, h2⟩ := List.getElem?_eq_some_iff.1 hs
        rw [List.take_succ_eq_append_getElem h1, h2, putAll_snoc]
      have hpt := put_any wr w.heap.size p m v' _ s e hat.pl (HE.out.below hat.low) (by omega)
      have HAT := Lib.hid hat
      have HCL := Lib.hid hcl
      have HTS := Lib.hid hts
      have HPT := Lib.hid hpt
      clear e1 hc hat hs hXk hcl hts hpt
      go_wp2_with fail
      (with_reducible refine HPT.out.mono ?_)
      rintro e3 w3 ⟨v3, rfl, hi3, hf3, hv3⟩
      have hat := HAT.out
      have hb3 := far_pool hat.pl hf3 hat.low (Nat.le_refl _)
      have k3 := HCL.out w3 hb3
      have hr3 : RIs w3 w.heap.size w1.heap.size v2 (putAll (L.take k)) := by
        refine hat.rl.far hf3 ?_ ?_
        · rintro (e | e | e)
          · exact rows_ne hat.pl.row hat.rl.row e.symm
          · obtain ⟨D, hD, _⟩ := hat.pl.map
            exact row_ne_map hat.rl.row hD e
          · exact own_ne_ref hat.pl.own hat.rl.row e.symm
        · intro g hg
          rintro (e | e | e)
          · subst e; exact own_ne_pool hat.rl.own hat.pl.row hg
          · subst e
            obtain ⟨D, hD, _⟩ := hat.pl.map
            exact own_ne_map hat.rl.own hD hg
          · exact hat.ap g e.symm hg
      have hap3 : Apart v3 v2 := by
        intro g hg hg2
        rcases hv3 with e | ⟨j, e, hj⟩
        · exact hat.ap g (by rw [← e]; exact hg) hg2
        · rw [e] at hg
          obtain rfl : j = g := Option.some.inj hg
          have := (hat.rl.own.lt j hg2).2
          omega
      have hrp := rput_any w3 w.heap.size w1.heap.size v2 _ s hr3 (by omega)
      have HI3 := Lib.hid hi3
      have HR3 := Lib.hid hr3
      have HB3 := Lib.hid hb3
      have HAP3 := Lib.hid hap3
      have HRP := Lib.hid hrp
      clear hat hi3 hf3 hv3 hb3 hr3 hap3 hrp HPT
      go_wp2_with fail
      (with_reducible refine HRP.out.mono ?_)
      rintro e4 w4 ⟨v4, rfl, hr4, hf4, hv4⟩
      have hi3 := HI3.out
      have hr3 := HR3.out
      have hi4 : Pl.Is w4 w.heap.size p v3 m (putL (putAll (L.take k)) s) := by
        refine Is.far hi3 hf4 ?_ ?_ ?_
        · rintro (e | e)
          · exact rows_ne hi3.row hr3.row e
          · exact own_ne_pool hr3.own hi3.row e.symm
        · obtain ⟨D, hD, _⟩ := hi3.map
          rintro (e | e)
          · exact row_ne_map hr3.row hD e.symm
          · exact own_ne_map hr3.own hD e.symm
        · intro g hg
          rintro (e | e)
          · subst e; exact own_ne_ref hi3.own hr3.row hg
          · exact HAP3.out g hg e.symm
      have hap4 : Apart v3 v4 := by
        intro g hg hg2
        rcases hv4 with e | ⟨j, e, hj⟩
        · exact HAP3.out g hg (by rw [← e]; exact hg2)
        · rw [e] at hg2
          obtain rfl : j = g := Option.some.inj hg2
          have := (hi3.own.lt j hg).2
          omega
      have hb4 : Below w.heap.size w w4 := HB3.out.trans (hf4.below (fun k hk => by
        rcases hk with rfl | hk
        · exact hr3.ge
        · exact own_ge hr3.own hk.symm) HB3.out.size)
      have hat4 : PoAt L w p m w1.heap.size (k + 1) v3 v4 w4 := by
        refine ⟨?_, ?_, hb4, hap4, by omega⟩
        · rw [HTS.out]; exact hi4
        · rw [HTS.out]; exact hr4
      have HAT4 := Lib.hid hat4
      clear hi3 hr3 hi4 hap4 hb4 hat4 hr4 hf4 hv4 HRP
      go_wp2_with fail
      go_roundw
      case rel => exact ⟨k + 1, v3, v4, by go_num, HAT4.out⟩
      case measure => simp [intOf]; omega
    · have hk : k = X.length := by omega
      have hi1 : ¬ (k : Int) < (X.length : Int) := by omega
      have htk : L.take k = L := List.take_of_length_le (by omega)
      have h1 := hat.pl
      have h2 := hat.rl
      rw [htk] at h1 h2
      have HF := Lib.hid (And.intro h1 (And.intro h2 hat.low))
      clear hat hk htk h1 h2
      go_wp2_with fail
      go_ret2
      unfold PoPost
      exact ⟨p, v', m, w1.heap.size, v2, rfl, HF.out.1, HF.out.2.1, HF.out.2.2⟩
end Rp
end Go.Proofs.YtmlndamkcipebaaDoor
