/- package pool: a pool of texts. -/
import Derived.Test.YtmlndamkcipebaaDoorTapeJoins
import Derived.Maps.OwnSet
import Derived.Maps.OwnOps
import Derived.Maps.AppendAt
import Derived.Carry
namespace Go.Proofs.YtmlndamkcipebaaDoor
open Go Go.RowKit Lmd
namespace Pl
open Rul Day Cand Tp
open Go.Maps (Keyed string_keyed)

/-- the key that a text is -/
abbrev ky (s : List UInt8) : Lit := .string s
theorem lawS : Keyed Tryd.prog 9 := string_keyed Tryd.underlying9
theorem zeroI (w : World) : (zeroValue 3).run Tryd.prog w = .ok (.int .i64 0) w := by kernel_rfl
theorem hkeyS {s : List UInt8} (h : s.length ≤ maxLen) : keyOf Tryd.prog 9 (.string (mk s)) = some (ky s) := Go.WideMaps.keyOf_string_mk Tryd.underlying9 (s := mk s) h
/-- a map tells the numbers of texts -/
structure Tells (xs : List (List UInt8)) (D : DataW Unit) : Prop where
  has : ∀ s, Maps.has D (ky s) = decide (s ∈ xs)
  num : ∀ s, s ∈ xs → D.atKey (ky s) (.lit (.int .i64 0)) = .lit (.int .i64 (xs.idxOf s : Nat))
  isMap : Maps.IsMap D
theorem tells_nil : Tells [] (.map []) := ⟨fun s => by simp [Maps.has], fun s h => absurd h (by simp), Maps.isMap_empty⟩
theorem ky_ne {a b : List UInt8} (h : a ≠ b) : ky a ≠ ky b := by
  intro e
  apply h
  injection e
theorem Tells.put {xs : List (List UInt8)} {D : DataW Unit} (h : Tells xs D) {s : List UInt8} (hs : s ∉ xs) : Tells (xs ++ [s]) (D.put (ky s) (.lit (.int .i64 (xs.length : Nat)))) := by
  have hk : WideAt.IsKeyLit (ky s) := by trivial
  refine ⟨fun t => ?_, fun t ht => ?_, h.isMap.put _ _⟩
  · by_cases e : t = s
    · subst e
      rw [Maps.has_put_same h.isMap hk]
      simp
    · rw [Maps.has_put_other (ky_ne e), h.has]
      simp [e]
  · by_cases e : t = s
    · subst e
      rw [Maps.atKey_put_same h.isMap hk, List.idxOf_append, if_neg hs]
      simp
    · have hm : t ∈ xs := by simpa [e] using ht
      rw [Maps.atKey_put_other (ky_ne e), h.num t hm, List.idxOf_append, if_pos hm]
/-- a pool -/
structure Is (w : World) (base p : Nat) (v : Value) (m : Nat) (xs : List (List UInt8)) : Prop where
  row : w.heap[p]? = some (.cells #[v, .map (some m)] 103 (0, 0))
  own : w.ownsRow base 9 1 v xs.length (cellsS (xs.map mk))
  map : ∃ D, w.ownsMap Tryd.prog 9 (plainElem (H := Unit) Tryd.prog 3) m xs.length D ∧ Tells xs D
  ge : base ≤ p ∧ base ≤ m
  few : xs.length ≤ 1000
  small : ∀ s ∈ xs, s.length ≤ 10000
  once : xs.Nodup
theorem Is.below {w w' : World} {base p m : Nat} {v : Value} {xs : List (List UInt8)} (h : Is w base p v m xs) (hb : Below w.heap.size w w') : Is w' base p v m xs := by
  obtain ⟨D, h1, h2⟩ := h.map
  refine ⟨row_below h.row hb, own_later h.own hb, ⟨D, ?_, h2⟩, h.ge, h.few, h.small, h.once⟩
  exact h1.kept (row := none) ⟨hb.os, hb.tape, hb.output, hb.size, fun k hk _ => hb.block k hk⟩ (by simp)
theorem own_ne_pool {w : World} {base p n : Nat} {v : Value} {xs : List Value} {cs : Array Value} {fz : Nat × Nat} (h : w.ownsRow base 9 1 v n xs) (hr : w.heap[p]? = some (.cells cs 103 fz)) : v.ownBlock ≠ some p := by
  rcases h.2 with ⟨rfl, _⟩ | ⟨g, cap, cur, rfl, _, hr', _⟩
  · simp [Value.ownBlock]
  · intro e
    obtain rfl : g = p := by simpa [Value.ownBlock] using e
    rw [hr'] at hr
    have ht : 9 = 103 := by injection hr with e1; injection e1
    revert ht; decide
theorem own_ne_map {w : World} {base b n k : Nat} {v : Value} {xs : List Value} {t : TypeId} {R : Value → Option (DataW Unit × List MemPlace)} {D : DataW Unit} (h : w.ownsRow base 9 1 v n xs) (hm : w.ownsMap Tryd.prog t R b k D) : v.ownBlock ≠ some b := by
  rcases h.2 with ⟨rfl, _⟩ | ⟨g, cap, cur, rfl, _, hr', _⟩
  · simp [Value.ownBlock]
  · intro e
    obtain rfl : g = b := by simpa [Value.ownBlock] using e
    obtain ⟨es, clock, hb, _⟩ := hm
    rw [hr'] at hb
    cases hb
theorem row_ne_map {w : World} {b p k : Nat} {t t2 : TypeId} {cs : Array Value} {fz : Nat × Nat} {R : Value → Option (DataW Unit × List MemPlace)} {D : DataW Unit} (hr : w.heap[p]? = some (.cells cs t2 fz)) (hm : w.ownsMap Tryd.prog t R b k D) : p ≠ b := by
  rintro rfl
  obtain ⟨es, clock, hb, _⟩ := hm
  rw [hr] at hb
  cases hb
theorem own_set {w : World} {base n : Nat} {e : TypeId} {v u : Value} {xs : List Value} {p : Addr} (h : w.ownsRow base e 1 v n xs) (hp : v.ownBlock ≠ some p.block) : (w.setCell p u).ownsRow base e 1 v n xs := by
  refine ⟨h.1, ?_⟩
  rcases h.2 with hn | ⟨g, cap, cur, rfl, hb, hgg, rest⟩
  · exact .inl hn
  · exact .inr ⟨g, cap, cur, rfl, hb, by rw [Below.heap_setCell _ _ _ _ (fun e => hp (by simp [Value.ownBlock, e]))]; exact hgg, rest⟩
/-- the errors of pools -/
structure EL (w : World) (e : Nat → Addr) : Prop where
  s0 : Frame.Sent w 3 (Er.tx [116, 101, 120, 116]) (e 0)
  s1 : Frame.Sent w 0 (Er.tx [98, 111, 117, 110, 100]) (e 1)
  s4 : Frame.Sent w 5 (Er.tx [110, 111, 110, 101]) (e 4)
  s5 : Frame.Sent w 8 (Er.tx [101, 120, 105, 115, 116]) (e 5)
  s6 : Frame.Sent w 2 (Er.tx [102, 117, 108, 108]) (e 6)
theorem EL.below {w w' : World} {e : Nat → Addr} (h : EL w e) (hb : Below w.heap.size w w') : EL w' e := ⟨h.s0.below hb, h.s1.below hb, h.s4.below hb, h.s5.below hb, h.s6.below hb⟩
theorem far_of {S : Nat → Prop} {w w' : World} (hb : Below w.heap.size w w') : Far S w w' := ⟨hb.os, hb.tape, hb.output, hb.size, fun k hk _ => hb.block k hk⟩
set_option maxRecDepth 100000 in
theorem new_any (w : World) : Calls Tryd.prog 23 #[] w fun e w' => ∃ p v m, e = .returned (.pointer (some ⟨p, 0, none⟩)) ∧ Is w' w.heap.size p v m [] ∧ Below w.heap.size w w' := by
  have hmm := @run_makeMap Tryd.prog
  go_enter Tryd.func23, Tryd.ntmps23
  go_wp2
  go_ret
  have h1 := heap_new (w.alloc (.map #[] 0)) (.cells #[.slice none 0 0, .map (some w.heap.size)] 103)
  rw [World.size_alloc] at h1
  refine ⟨w.heap.size + 1, .slice none 0 0, w.heap.size, rfl, ⟨h1, ⟨rfl, .inl ⟨rfl, rfl⟩⟩, ⟨.map [], (World.ownsMap_made w _ _ _).alloc _, tells_nil⟩, ⟨by omega, by omega⟩, by simp, by simp, List.nodup_nil⟩, ?_⟩
  exact ((Below.refl _ w).alloc (Nat.le_refl _) _).alloc (by simp) _
/-- what a put does: the error's number, the text's number, the texts -/
def putC (xs : List (List UInt8)) (s : List UInt8) : Nat := if 10000 < s.length then 2 else if s ∈ xs then 0 else if 1000 ≤ xs.length then 7 else 0
def putN (xs : List (List UInt8)) (s : List UInt8) : Nat := if 10000 < s.length then 0 else if s ∈ xs then xs.idxOf s else if 1000 ≤ xs.length then 0 else xs.length
def putL (xs : List (List UInt8)) (s : List UInt8) : List (List UInt8) := if 10000 < s.length then xs else if s ∈ xs then xs else if 1000 ≤ xs.length then xs else xs ++ [s]
def PutPost (e : Nat → Addr) (w : World) (base p m : Nat) (v : Value) (xs : List (List UInt8)) (s : List UInt8) (er : Ending) (w' : World) : Prop :=
  ∃ v', er = .returned (.tuple #[.int .i64 (putN xs s : Nat), errV e (putC xs s)]) ∧ Is w' base p v' m (putL xs s) ∧ Far (fun k => k = p ∨ k = m ∨ some k = v.ownBlock) w w' ∧ (v'.ownBlock = v.ownBlock ∨ ∃ k, v'.ownBlock = some k ∧ w.heap.size ≤ k)
theorem string_info : (Tryd.prog.info? 9).map (fun i => (i.zero, i.size, i.bytes)) = some (some (.string ⟨#[]⟩), 1, 16) := by kernel_rfl
set_option maxRecDepth 100000 in
set_option maxHeartbeats 1000000 in
theorem put_any (w : World) (base p m : Nat) (v : Value) (xs : List (List UInt8)) (s : List UInt8) (e : Nat → Addr) (h : Is w base p v m xs) (he : EL w e) (hs0 : s.length ≤ 9223372036854775807) :
    Calls Tryd.prog 24 #[.pointer (some ⟨p, 0, none⟩), .string (mk s)] w (PutPost e w base p m v xs s) := by
  obtain ⟨i0, hi0, hz0, hz1, hz2⟩ := info_parts string_info
  obtain ⟨D, hown, htl⟩ := h.map
  have k0 : w.cell? ⟨p, 0, none⟩ = some v := cell_of h.row rfl
  have k1 : w.cell? ⟨p, 1, none⟩ = some (.map (some m)) := cell_of h.row rfl
  have hkey := hkeyS (s := s) (by simpa [maxLen] using hs0)
  obtain ⟨a0, c0, rfl⟩ := ownsRow_slice h.own
  obtain ⟨S, hS⟩ : ∃ S, mk s = S := ⟨_, rfl⟩
  have hsz : S.size = s.length := by rw [← hS]; rfl
  rw [hS] at hkey ⊢
  have HS := Lib.hid hS
  have H := Lib.hid h
  have HE := Lib.hid he
  have HTL := Lib.hid htl
  clear hS h he htl
  by_cases hbig : 10000 < s.length
  · have hb1 : (10000 : Int) < (S.size : Int) := by omega
    have cE := HE.out.s1.cell
    have hc : putC xs s = 2 ∧ putN xs s = 0 ∧ putL xs s = xs := by unfold putC putN putL; rw [if_pos hbig, if_pos hbig, if_pos hbig]; exact ⟨rfl, rfl, rfl⟩
    have HC := Lib.hid hc
    clear hc hbig hown hkey hsz
    go_enter Tryd.func24, Tryd.ntmps24
    go_wp2_with fail
    go_quiet (fail)
    go_wp2
    go_ret2
    obtain ⟨c1, c2, c3⟩ := HC.out
    have hb := below_draw (Below.refl w.heap.size w) 1
    unfold PutPost
    rw [c1, c2, c3]
    exact ⟨_, rfl, H.out.below (below_draw (Below.refl _ w) _), far_of (below_draw (Below.refl _ w) _), .inl rfl⟩
  · have hb1 : ¬ (10000 : Int) < (S.size : Int) := by omega
    have HBIG := Lib.hid hbig
    clear hbig
    by_cases hm : s ∈ xs
    · have hhas : Maps.has D (ky s) = true := by rw [HTL.out.has, decide_eq_true hm]
      have hnum := HTL.out.num s hm
      have hc : putC xs s = 0 ∧ putN xs s = xs.idxOf s ∧ putL xs s = xs := by unfold putC putN putL; rw [if_neg HBIG.out, if_neg HBIG.out, if_neg HBIG.out, if_pos hm, if_pos hm, if_pos hm]; exact ⟨rfl, rfl, rfl⟩
      have HC := Lib.hid hc
      have HNUM := Lib.hid hnum
      clear hc hsz hnum hm
      go_enter Tryd.func24, Tryd.ntmps24
      go_wp2_with (at_lookup; refine wpList_lookup_own_ok_int _ rfl _ _ 101 rfl 9 3 .i64 lawS Tryd.underlying101 Tryd.underlying3 (zeroI _) m xs.length D rfl hown _ (ky s) rfl hkey ?_; intro c hat hwc; rw [HNUM.out] at hat; have hat2 := Lib.hid hat; clear hat)
      go_ret2
      obtain ⟨c1, c2, c3⟩ := HC.out
      have e1 := hat2.out
      unfold PutPost
      rw [c1, c2, c3]
      refine ⟨_, ?_, H.out, Far.refl _ w, .inl rfl⟩
      injection e1 with e2
      injection e2 with e3 e4
      rw [← e4]; rfl
    · have hhas : Maps.has D (ky s) = false := by rw [HTL.out.has, decide_eq_false hm]
      by_cases hful : 1000 ≤ xs.length
      · have hf1 : (1000 : Int) ≤ (xs.length : Int) := by omega
        have cE := HE.out.s6.cell
        have hc : putC xs s = 7 ∧ putN xs s = 0 ∧ putL xs s = xs := by unfold putC putN putL; rw [if_neg HBIG.out, if_neg HBIG.out, if_neg HBIG.out, if_neg hm, if_neg hm, if_neg hm, if_pos hful, if_pos hful, if_pos hful]; exact ⟨rfl, rfl, rfl⟩
        have HC := Lib.hid hc
        clear hc hsz hm hful
        go_enter Tryd.func24, Tryd.ntmps24
        go_wp2_with (at_lookup; refine wpList_lookup_own_ok_int _ rfl _ _ 101 rfl 9 3 .i64 lawS Tryd.underlying101 Tryd.underlying3 (zeroI _) m xs.length D rfl hown _ (ky s) rfl hkey ?_; intro c hat hwc; clear hat)
        go_quiet (fail)
        go_wp2
        go_ret2
        obtain ⟨c1, c2, c3⟩ := HC.out
        unfold PutPost
        rw [c1, c2, c3]
        exact ⟨_, rfl, H.out.below (below_draw (Below.refl _ w) _), far_of (below_draw (Below.refl _ w) _), .inl rfl⟩
      · have hf1 : ¬ (1000 : Int) ≤ (xs.length : Int) := by omega
        obtain ⟨w1, hrun, hown1, hturn⟩ := (hown.drew).store (key := .string S) (val := .int .i64 (xs.length : Nat)) lawS Tryd.underlying101 (by simp only [maxLen]; omega) hkey (plainElem_int Tryd.underlying3 (WalkArith.wf_i64 (by omega)))
        have HOWN1 := Lib.hid hown1
        have HTURN := Lib.hid hturn
        have HFUL := Lib.hid hful
        clear hown1 hturn hful
        go_enter Tryd.func24, Tryd.ntmps24
        go_wp2_with (at_lookup; refine wpList_lookup_own_ok_int _ rfl _ _ 101 rfl 9 3 .i64 lawS Tryd.underlying101 Tryd.underlying3 (zeroI _) m xs.length D rfl hown _ (ky s) rfl hkey ?_; intro c hat hwc; clear hat)
        go_region
        have hg := HTURN.out.grown
        have hpm := row_ne_map H.out.row hown
        have hrow1 : w1.heap[p]? = some (.cells #[.slice a0 xs.length c0, .map (some m)] 103 (0, 0)) := by
          rw [hg.block p (Array.getElem?_eq_some_iff.1 H.out.row).1 (fun e => hpm (by injection e))]; exact H.out.row
        have hor1 : w1.ownsRow base 9 1 (.slice a0 xs.length c0) xs.length (cellsS (xs.map mk)) := World.ownsRow.kept (w := w.drew) H.out.own hg (.inr (own_ne_map H.out.own hown))
        have j0 : w1.cell? ⟨p, 0, none⟩ = some (.slice a0 xs.length c0) := cell_of hrow1 rfl
        have hwx := heap_new w1 (.cells #[.string S] 9)
        have hbx : Below w1.heap.size w1 (w1.alloc (.cells #[.string S] 9)) := (Below.refl _ w1).alloc (Nat.le_refl _) _
        have hbase : base ≤ w1.heap.size := Nat.le_trans H.out.ge.1 (Nat.le_of_lt (Array.getElem?_eq_some_iff.1 hrow1).1)
        have HG := Lib.hid hg
        have HR1 := Lib.hid hrow1
        have HO1 := Lib.hid hor1
        have HBX := Lib.hid hbx
        have HBASE := Lib.hid hbase
        have HPM := Lib.hid hpm
        have hlen : xs.length < 1000 := by have := HFUL.out; omega
        clear hg hrow1 hor1 hbx hbase hpm hrun hown k0 k1 hwx
        go_wp2_with (first
          | (at_builtin
             refine wpList_append_own_at _ rfl (.tmp 44) (.tmp 46) _ rfl base 9 i0 _ 1 16 Tryd.underlying22 hi0 hz0 hz1 hz2 rfl (by omega) (.slice a0 xs.length c0) xs.length (cellsS (xs.map mk)) rfl
               (HO1.out.alloc _) ⟨w1.heap.size, 0, none⟩ 1 1 [.string S] rfl rfl (cell_one_new _ _ _) (fun u hu => by simp at hu; subst hu; rfl) (by simp only [maxLen]; omega) (by omega) (by simp; have := HBASE.out; omega) ?_
             intro v1 wb hown' hg2 hnil hloc
             obtain ⟨a1, c1, e1⟩ := ownsRow_slice hown'
             subst e1
             have hrb : wb.heap[p]? = some (.cells #[.slice a0 xs.length c0, .map (some m)] 103 (0, 0)) := by
               have hr2 := row_below HR1.out HBX.out
               rw [hg2.block p (Array.getElem?_eq_some_iff.1 hr2).1 (fun e => own_ne_pool (HO1.out.alloc _) hr2 e.symm)]; exact hr2
             have b0 : wb.frozen? ⟨p, 0, none⟩ = false := by simp [World.frozen?, hrb]
             have b1 : wb.cell? ⟨p, 0, none⟩ = some (.slice a0 xs.length c0) := cell_of hrb rfl
             have HRB := Lib.hid hrb
             have HOB := Lib.hid hown'
             have HG2 := Lib.hid hg2
             have HLOC := Lib.hid hloc
             clear hown' hg2 hnil hloc hrb))
        go_ret2
        have hc : putC xs s = 0 ∧ putN xs s = xs.length ∧ putL xs s = xs ++ [s] := by unfold putC putN putL; rw [if_neg HBIG.out, if_neg HBIG.out, if_neg HBIG.out, if_neg hm, if_neg hm, if_neg hm, if_neg HFUL.out, if_neg HFUL.out, if_neg HFUL.out]; exact ⟨rfl, rfl, rfl⟩
        obtain ⟨r1, r2, r3⟩ := hc
        unfold PutPost
        rw [r1, r2, r3]
        have hcs : cellsS ((xs ++ [s]).map mk) = cellsS (xs.map mk) ++ [.string S] := by rw [← HS.out]; simp [cellsS]
        have hmb : wb.ownsMap Tryd.prog 9 (plainElem (H := Unit) Tryd.prog 3) m (xs.length + 1) _ := (HOWN1.out.alloc _).kept HG2.out (fun e => own_ne_map HO1.out HOWN1.out e.symm)
        have hgs := HG.out.size
        refine ⟨_, rfl, ⟨row_set HRB.out 0 _, ?_, ⟨_, ?_, HTL.out.put hm⟩, H.out.ge, ?_, ?_, ?_⟩, ?_, ?_⟩
        · rw [hcs, List.length_append]
          exact own_set HOB.out (own_ne_pool HOB.out HRB.out)
        · rw [List.length_append]
          exact hmb.setCell (Ne.symm HPM.out) _
        · rw [List.length_append, List.length_singleton]; omega
        · intro t ht
          rcases List.mem_append.1 ht with ht | ht
          · exact H.out.small t ht
          · have := HBIG.out
            rw [List.mem_singleton] at ht; subst ht; omega
        · exact List.nodup_append.2 ⟨H.out.once, by simp, by intro a ha b hb e; rw [List.mem_singleton] at hb; subst hb; subst e; exact hm ha⟩
        · have f1 : Far (fun k => k = p ∨ k = m ∨ some k = Value.ownBlock (.slice a0 xs.length c0)) w.drew w1 := ⟨HG.out.os, HG.out.tape, HG.out.output, HG.out.size, fun k hk hs => HG.out.block k hk (fun e => hs (.inr (.inl (Option.some.inj e))))⟩
          refine ((f1.drew.trans (far_of HBX.out)).trans ⟨HG2.out.os, HG2.out.tape, HG2.out.output, HG2.out.size, fun k hk hs => HG2.out.block k hk (fun e => hs (.inr (.inr e)))⟩).set (p := ⟨p, 0, none⟩) (.inl rfl) _
        · rcases HLOC.out with h | h
          · exact .inl h
          · refine .inr ⟨_, h, ?_⟩
            have : w.heap.size ≤ w1.heap.size := hgs
            rw [World.size_alloc]; omega
theorem get_any (w : World) (base p m : Nat) (v : Value) (xs : List (List UInt8)) (k : Nat) (s : List UInt8) (h : Is w base p v m xs) (hk : xs[k]? = some s) :
    Calls Tryd.prog 26 #[.pointer (some ⟨p, 0, none⟩), .int .i64 (k : Int)] w fun e w' => e = .returned (.tuple #[.string (mk s), .nilIface]) ∧ Below w.heap.size w w' := by
  have k0 : w.cell? ⟨p, 0, none⟩ = some v := cell_of h.row rfl
  have hkl := (List.getElem?_eq_some_iff.1 hk).1
  rcases reads_ownS h.own (by simp) with ⟨h1, _⟩ | ⟨g, cap, rfl, _, _, h2⟩
  · have : xs = [] := by simpa using h1
    subst this
    simp at hkl
  · have c0 := h2 k (mk s) (by rw [List.getElem?_map, hk]; rfl)
    have hi0 : ¬ (k : Int) < 0 := by omega
    have hi1 : ¬ (xs.length : Int) ≤ (k : Int) := by omega
    have hi2 : (k : Int) < (xs.length : Int) := by omega
    have hl : (xs.map mk).length = xs.length := by simp
    rw [hl] at k0
    rw [Nat.zero_add] at c0
    have hfew := h.few
    clear h h2 hk
    go_enter Tryd.func26, Tryd.ntmps26
    go_wp2
    go_ret2
    exact ⟨rfl, Below.refl _ w⟩
theorem len_any (w : World) (base p m : Nat) (v : Value) (xs : List (List UInt8)) (h : Is w base p v m xs) :
    Calls Tryd.prog 25 #[.pointer (some ⟨p, 0, none⟩)] w fun e w' => e = .returned (.int .i64 (xs.length : Nat)) ∧ w' = w := by
  have k0 : w.cell? ⟨p, 0, none⟩ = some v := cell_of h.row rfl
  obtain ⟨a0, c0, rfl⟩ := ownsRow_slice h.own
  clear h
  go_enter Tryd.func25, Tryd.ntmps25
  go_wp2
  go_ret
  exact ⟨rfl, rfl⟩
end Pl
end Go.Proofs.YtmlndamkcipebaaDoor
