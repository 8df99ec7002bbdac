/- The reference's pool: Find, Put. -/
import Derived.Test.YtmlndamkcipebaaGreatDoorPooled
namespace Go.Proofs.YtmlndamkcipebaaGreatDoor
open Go Go.RowKit Lmd
namespace Rp
open Rul Day Cand Tp Pl Pk

/-- a model of a pool -/
structure RIs (w : World) (base p : Nat) (v : Value) (xs : List (List UInt8)) : Prop where
  row : w.heap[p]? = some (.cells #[v] 28 (0, 0))
  own : w.ownsRow base 9 1 v xs.length (cellsS (xs.map mk))
  ge : base ≤ p
  few : xs.length ≤ 1000
  small : ∀ s ∈ xs, s.length ≤ 10000
theorem RIs.below {w w' : World} {base p : Nat} {v : Value} {xs : List (List UInt8)} (h : RIs w base p v xs) (hb : Below w.heap.size w w') : RIs w' base p v xs :=
  ⟨row_below h.row hb, own_later h.own hb, h.ge, h.few, h.small⟩
/-- where a text stands (-1: nowhere) -/
def findI (xs : List (List UInt8)) (s : List UInt8) : Int := if s ∈ xs then (xs.idxOf s : Nat) else -1
theorem idx_first {xs : List (List UInt8)} {s : List UInt8} {k : Nat} (hk : xs[k]? = some s) (hn : s ∉ xs.take k) : xs.idxOf s = k := by
  obtain ⟨h1, h2⟩ := List.getElem?_eq_some_iff.1 hk
  have e : xs = xs.take k ++ s :: xs.drop (k + 1) := by
    rw [← h2, ← List.drop_eq_getElem_cons h1, List.take_append_drop]
  rw [e, List.idxOf_append, if_neg hn, List.idxOf_cons_self, List.length_take]
  omega
set_option maxRecDepth 100000 in
set_option maxHeartbeats 1000000 in
theorem rfind_any (w : World) (base p : Nat) (v : Value) (xs : List (List UInt8)) (s : List UInt8) (h : RIs w base p v xs) :
    Calls Tryz.prog 17 #[.pointer (some ⟨p, 0, none⟩), .string (mk s)] w fun er w' => er = .returned (.int .i64 (findI xs s)) ∧ ∃ q, w' = w.drewN q := by
  have k0 : w.cell? ⟨p, 0, none⟩ = some v := cell_of h.row rfl
  obtain ⟨a0, c0, rfl⟩ := ownsRow_slice h.own
  have hfew := h.few
  have hrd := reads_ownS h.own (by simp)
  have HRD := Lib.hid hrd
  clear h hrd
  go_enter Tryz.func17, Tryz.ntmps17
  go_wp2_with fail
  go_loopw [5] (fun i wr => ∃ k q : Nat, i = .int .i64 k ∧ k ≤ xs.length ∧ s ∉ xs.take k ∧ wr = w.drewN q) (fun i _ => xs.length - (intOf i).toNat)
  case atStart => exact ⟨0, 0, rfl, Nat.zero_le _, by simp, rfl⟩
  case round =>
    obtain ⟨k, q, rfl, hk, hn, rfl⟩ := hrel
    by_cases hlt : k < xs.length
    · obtain ⟨t, ht⟩ : ∃ t, xs[k]? = some t := ⟨_, List.getElem?_eq_getElem hlt⟩
      have hi1 : (k : Int) < (xs.length : Int) := by omega
      rcases HRD.out with ⟨h1, _⟩ | ⟨g, cap, h1, _, _, h2⟩
      · have : xs = [] := by simpa using h1
        subst this
        simp at hlt
      · have c1 := h2 k (mk t) (by rw [List.getElem?_map, ht]; rfl)
        rw [Nat.zero_add] at c1
        have hl : (xs.map mk).length = xs.length := by simp
        rw [hl] at h1
        obtain ⟨rfl, rfl⟩ : a0 = some ⟨g, 0, none⟩ ∧ c0 = cap := by cases h1; exact ⟨rfl, rfl⟩
        have HT := Lib.hid ht
        have HN := Lib.hid hn
        clear ht hn h1 h2 hl
        by_cases e : t = s
        · subst e
          go_wp2_with fail
          go_ret
          refine ⟨?_, _, rfl⟩
          have hm : t ∈ xs := List.mem_of_getElem? HT.out
          unfold findI
          rw [if_pos hm, idx_first HT.out HN.out]; rfl
        · have e2 : (t == s) = false := by simpa using e
          have e3 : ((mk t).toList == (mk s).toList) = false := by rw [toListMk, toListMk]; exact e2
          have E := Lib.hid e
          clear e
          go_wp2_with fail
          go_roundw
          case rel =>
            refine ⟨k + 1, _, by go_num, by omega, ?_, rfl⟩
            intro hy
            obtain ⟨h3, h4⟩ := List.getElem?_eq_some_iff.1 HT.out
            rw [List.take_succ_eq_append_getElem h3, h4, List.mem_append] at hy
            rcases hy with hy | hy
            · exact HN.out hy
            · rw [List.mem_singleton] at hy; exact E.out hy.symm
          case measure => simp [intOf]; omega
    · have hi1 : ¬ (k : Int) < (xs.length : Int) := by omega
      have HN := Lib.hid hn
      have HK := Lib.hid (show k = xs.length by omega)
      clear hn
      go_wp2_with fail
      go_ret
      refine ⟨?_, _, rfl⟩
      have h := HN.out
      rw [HK.out, List.take_length] at h
      unfold findI
      rw [if_neg h]; rfl
/-- what lies behind a put to a model -/
def RPutPost (w : World) (base p : Nat) (v : Value) (xs : List (List UInt8)) (s : List UInt8) (er : Ending) (w' : World) : Prop :=
  ∃ v', er = .returned (.tuple #[.int .i64 (putN xs s : Nat), .int .i64 (putC xs s : Nat)]) ∧ RIs w' base p v' (putL xs s) ∧ Far (fun k => k = p ∨ some k = v.ownBlock) w w' ∧ (v'.ownBlock = v.ownBlock ∨ ∃ k, v'.ownBlock = some k ∧ w.heap.size ≤ k)
theorem own_ne_ref {w : World} {base p n : Nat} {v : Value} {xs : List Value} {cs : Array Value} {fz : Nat × Nat} (h : w.ownsRow base 9 1 v n xs) (hr : w.heap[p]? = some (.cells cs 28 fz)) : v.ownBlock ≠ some p := by
  rcases h.2 with ⟨rfl, _⟩ | ⟨g, cap, cur, rfl, _, hr', _⟩
  · simp [Value.ownBlock]
  · intro e
    obtain rfl : g = p := by simpa [Value.ownBlock] using e
    rw [hr'] at hr
    have ht : 9 = 28 := by injection hr with e1; injection e1
    revert ht; decide
set_option maxRecDepth 100000 in
set_option maxHeartbeats 1000000 in
theorem rput_any (w : World) (base p : Nat) (v : Value) (xs : List (List UInt8)) (s : List UInt8) (h : RIs w base p v xs) (hs0 : s.length ≤ 9223372036854775807) :
    Calls Tryz.prog 9 #[.pointer (some ⟨p, 0, none⟩), .string (mk s)] w (RPutPost w base p v xs s) := by
  obtain ⟨i0, hi0, hz0, hz1, hz2⟩ := info_parts Pl.string_info
  have hf := rfind_any w base p v xs s h
  have k0 : w.cell? ⟨p, 0, none⟩ = some v := cell_of h.row rfl
  obtain ⟨a0, c0, rfl⟩ := ownsRow_slice h.own
  obtain ⟨S, hS⟩ : ∃ S, mk s = S := ⟨_, rfl⟩
  have hsz : S.size = s.length := by rw [← hS]; rfl
  rw [hS] at hf ⊢
  have HS := Lib.hid hS
  have H := Lib.hid h
  have HF := Lib.hid hf
  clear hS h hf
  by_cases hbig : 10000 < s.length
  · have hb1 : (10000 : Int) < (S.size : Int) := by omega
    have hc : putC xs s = 2 ∧ putN xs s = 0 ∧ putL xs s = xs := by unfold putC putN putL; rw [if_pos hbig, if_pos hbig, if_pos hbig]; exact ⟨rfl, rfl, rfl⟩
    have HC := Lib.hid hc
    clear hc hbig hsz
    go_enter Tryz.func9, Tryz.ntmps9
    go_wp2
    go_ret2
    obtain ⟨c1, c2, c3⟩ := HC.out
    unfold RPutPost
    rw [c1, c2, c3]
    exact ⟨_, rfl, H.out, Far.refl _ w, .inl rfl⟩
  · have hb1 : ¬ (10000 : Int) < (S.size : Int) := by omega
    have HBIG := Lib.hid hbig
    clear hbig
    by_cases hm : s ∈ xs
    · have hfi : findI xs s = ((xs.idxOf s : Nat) : Int) := by unfold findI; rw [if_pos hm]
      have hc : putC xs s = 0 ∧ putN xs s = xs.idxOf s ∧ putL xs s = xs := by unfold putC putN putL; rw [if_neg HBIG.out, if_neg HBIG.out, if_neg HBIG.out, if_pos hm, if_pos hm, if_pos hm]; exact ⟨rfl, rfl, rfl⟩
      rw [hfi] at HF
      have HC := Lib.hid hc
      obtain ⟨N, hN⟩ : ∃ N, xs.idxOf s = N := ⟨_, rfl⟩
      rw [hN] at HF HC
      clear hc hsz hm hfi hN
      go_enter Tryz.func9, Tryz.ntmps9
      go_wp2_with fail
      (with_reducible refine HF.out.mono ?_)
      rintro e1 w1 ⟨rfl, q, rfl⟩
      go_wp2
      go_ret2
      obtain ⟨c1, c2, c3⟩ := HC.out
      unfold RPutPost
      rw [c1, c2, c3]
      exact ⟨_, rfl, H.out.below (below_draw (Below.refl _ w) _), far_of (below_draw (Below.refl _ w) _), .inl rfl⟩
    · have hfi : findI xs s = -1 := by unfold findI; rw [if_neg hm]
      rw [hfi] at HF
      clear hfi
      by_cases hful : 1000 ≤ xs.length
      · have hf1 : (1000 : Int) ≤ (xs.length : Int) := by omega
        have hc : putC xs s = 7 ∧ putN xs s = 0 ∧ putL xs s = xs := by unfold putC putN putL; rw [if_neg HBIG.out, if_neg HBIG.out, if_neg HBIG.out, if_neg hm, if_neg hm, if_neg hm, if_pos hful, if_pos hful, if_pos hful]; exact ⟨rfl, rfl, rfl⟩
        have HC := Lib.hid hc
        clear hc hsz hm hful
        go_enter Tryz.func9, Tryz.ntmps9
        go_wp2_with fail
        (with_reducible refine HF.out.mono ?_)
        rintro e1 w1 ⟨rfl, q, rfl⟩
        go_wp2
        go_ret2
        obtain ⟨c1, c2, c3⟩ := HC.out
        unfold RPutPost
        rw [c1, c2, c3]
        exact ⟨_, rfl, H.out.below (below_draw (Below.refl _ w) _), far_of (below_draw (Below.refl _ w) _), .inl rfl⟩
      · have hf1 : ¬ (1000 : Int) ≤ (xs.length : Int) := by omega
        have HFUL := Lib.hid hful
        have hlen : xs.length < 1000 := by omega
        clear hful
        go_enter Tryz.func9, Tryz.ntmps9
        go_wp2_with fail
        (with_reducible refine HF.out.mono ?_)
        rintro e1 w1 ⟨rfl, q, rfl⟩
        have hrow1 : (w.drewN q).heap[p]? = some (.cells #[.slice a0 xs.length c0] 28 (0, 0)) := row_below H.out.row (below_draw (Below.refl _ w) q)
        have hor1 : (w.drewN q).ownsRow base 9 1 (.slice a0 xs.length c0) xs.length (cellsS (xs.map mk)) := own_later H.out.own (below_draw (Below.refl _ w) q)
        have hbx : Below (w.drewN q).heap.size (w.drewN q) ((w.drewN q).alloc (.cells #[.string S] 9)) := (Below.refl _ _).alloc (Nat.le_refl _) _
        have hbase : base ≤ w.heap.size := Nat.le_trans H.out.ge (Nat.le_of_lt (Array.getElem?_eq_some_iff.1 H.out.row).1)
        have HR1 := Lib.hid hrow1
        have HO1 := Lib.hid hor1
        have HBX := Lib.hid hbx
        have HBASE := Lib.hid hbase
        clear hrow1 hor1 hbx hbase HF
        go_wp2_with (first
          | (at_builtin
             refine wpList_append_own_at _ rfl (.tmp 26) (.tmp 28) _ rfl base 9 i0 _ 1 16 Tryz.underlying22 hi0 hz0 hz1 hz2 rfl (by omega) (.slice a0 xs.length c0) xs.length (cellsS (xs.map mk)) rfl
               (HO1.out.alloc _) ⟨(w.drewN q).heap.size, 0, none⟩ 1 1 [.string S] rfl rfl (cell_one_new _ _ _) (fun u hu => by simp at hu; subst hu; rfl) (by simp only [maxLen]; omega) (by omega) (by simp; have := HBASE.out; omega) ?_
             intro v1 wb hown' hg2 hnil hloc
             obtain ⟨a1, c1, e1⟩ := ownsRow_slice hown'
             subst e1
             have hrb : wb.heap[p]? = some (.cells #[.slice a0 xs.length c0] 28 (0, 0)) := by
               have hr2 := row_below HR1.out HBX.out
               rw [hg2.block p (Array.getElem?_eq_some_iff.1 hr2).1 (fun e => own_ne_ref (HO1.out.alloc _) hr2 e.symm)]; exact hr2
             have b0 : wb.frozen? ⟨p, 0, none⟩ = false := by simp [World.frozen?, hrb]
             have b1 : wb.cell? ⟨p, 0, none⟩ = some (.slice a0 xs.length c0) := cell_of hrb rfl
             have HRB := Lib.hid hrb
             have HOB := Lib.hid hown'
             have HG2 := Lib.hid hg2
             have HLOC := Lib.hid hloc
             clear hown' hg2 hnil hloc hrb))
        go_ret2
        have hc : putC xs s = 0 ∧ putN xs s = xs.length ∧ putL xs s = xs ++ [s] := by unfold putC putN putL; rw [if_neg HBIG.out, if_neg HBIG.out, if_neg HBIG.out, if_neg hm, if_neg hm, if_neg hm, if_neg HFUL.out, if_neg HFUL.out, if_neg HFUL.out]; exact ⟨rfl, rfl, rfl⟩
        obtain ⟨r1, r2, r3⟩ := hc
        unfold RPutPost
        rw [r1, r2, r3]
        have hcs : cellsS ((xs ++ [s]).map mk) = cellsS (xs.map mk) ++ [.string S] := by rw [← HS.out]; simp [cellsS]
        refine ⟨_, ?_, ⟨row_set HRB.out 0 _, ?_, H.out.ge, ?_, ?_⟩, ?_, ?_⟩
        · simp
        · rw [hcs, List.length_append]
          exact own_set HOB.out (own_ne_ref HOB.out HRB.out)
        · rw [List.length_append, List.length_singleton]; omega
        · intro t ht
          rcases List.mem_append.1 ht with ht | ht
          · exact H.out.small t ht
          · have := HBIG.out
            rw [List.mem_singleton] at ht; subst ht; omega
        · refine ((far_of ((below_draw (Below.refl _ w) q).trans HBX.out)).trans ⟨HG2.out.os, HG2.out.tape, HG2.out.output, HG2.out.size, fun k hk hs => HG2.out.block k hk (fun e => hs (.inr e))⟩).set (p := ⟨p, 0, none⟩) (.inl rfl) _
        · rcases HLOC.out with h | h
          · exact .inl h
          · refine .inr ⟨_, h, ?_⟩
            have : w.heap.size ≤ (w.drewN q).heap.size := (below_draw (Below.refl w.heap.size w) q).size
            rw [World.size_alloc]; omega
theorem RIs.far {w w' : World} {base p : Nat} {v : Value} {xs : List (List UInt8)} {S : Nat → Prop} (h : RIs w base p v xs) (hf : Far S w w') (h1 : ¬ S p) (h2 : ∀ g, v.ownBlock = some g → ¬ S g) : RIs w' base p v xs := by
  refine ⟨?_, own_far2 h.own hf (fun g hg _ => h2 g hg), h.ge, h.few, h.small⟩
  rw [hf.block p (Array.getElem?_eq_some_iff.1 h.row).1 h1]; exact h.row
end Rp
end Go.Proofs.YtmlndamkcipebaaGreatDoor
