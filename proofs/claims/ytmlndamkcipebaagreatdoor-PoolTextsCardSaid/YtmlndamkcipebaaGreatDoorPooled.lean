/- package pool; the closed fact pooled. -/
import Derived.Test.YtmlndamkcipebaaGreatDoorFar
import Derived.Test.YtmlndamkcipebaaGreatDoorPacked
import Derived.Maps.OwnSet
import Derived.Maps.OwnOps
import Derived.Maps.AppendAt
import Derived.Carry
namespace Go.Proofs.YtmlndamkcipebaaGreatDoor
open Go Go.RowKit Lmd
namespace Pl
open Rul Day Cand Tp
open Go.Maps (Keyed string_keyed)

/-- the key that a text is -/
abbrev ky (s : List UInt8) : Lit := .string s
theorem lawS : Keyed Tryz.prog 9 := string_keyed Tryz.underlying9
theorem zeroI (w : World) : (zeroValue 3).run Tryz.prog w = .ok (.int .i64 0) w := by kernel_rfl
theorem hkeyS {s : List UInt8} (h : s.length ≤ maxLen) : keyOf Tryz.prog 9 (.string (mk s)) = some (ky s) := Go.WideMaps.keyOf_string_mk Tryz.underlying9 (s := mk s) h
/-- a map tells the numbers of texts -/
structure Tells (xs : List (List UInt8)) (D : DataW Unit) : Prop where
  has : ∀ s, Maps.has D (ky s) = decide (s ∈ xs)
  num : ∀ s, s ∈ xs → D.atKey (ky s) (.lit (.int .i64 0)) = .lit (.int .i64 (xs.idxOf s : Nat))
  isMap : Maps.IsMap D
theorem tells_nil : Tells [] (.map []) := ⟨fun s => by simp [Maps.has], fun s h => absurd h (by simp), Maps.isMap_empty⟩
theorem ky_ne {a b : List UInt8} (h : a ≠ b) : ky a ≠ ky b := by
  intro e
  apply h
  injection e
theorem Tells.put {xs : List (List UInt8)} {D : DataW Unit} (h : Tells xs D) {s : List UInt8} (hs : s ∉ xs) : Tells (xs ++ [s]) (D.put (ky s) (.lit (.int .i64 (xs.length : Nat)))) := by
  have hk : WideAt.IsKeyLit (ky s) := by trivial
  refine ⟨fun t => ?_, fun t ht => ?_, h.isMap.put _ _⟩
  · by_cases e : t = s
    · subst e
      rw [Maps.has_put_same h.isMap hk]
      simp
    · rw [Maps.has_put_other (ky_ne e), h.has]
      simp [e]
  · by_cases e : t = s
    · subst e
      rw [Maps.atKey_put_same h.isMap hk, List.idxOf_append, if_neg hs]
      simp
    · have hm : t ∈ xs := by simpa [e] using ht
      rw [Maps.atKey_put_other (ky_ne e), h.num t hm, List.idxOf_append, if_pos hm]
/-- a pool -/
structure Is (w : World) (base p : Nat) (v : Value) (m : Nat) (xs : List (List UInt8)) : Prop where
  row : w.heap[p]? = some (.cells #[v, .map (some m)] 70 (0, 0))
  own : w.ownsRow base 9 1 v xs.length (cellsS (xs.map mk))
  map : ∃ D, w.ownsMap Tryz.prog 9 (plainElem (H := Unit) Tryz.prog 3) m xs.length D ∧ Tells xs D
  ge : base ≤ p ∧ base ≤ m
  few : xs.length ≤ 1000
  small : ∀ s ∈ xs, s.length ≤ 10000
  once : xs.Nodup
theorem Is.below {w w' : World} {base p m : Nat} {v : Value} {xs : List (List UInt8)} (h : Is w base p v m xs) (hb : Below w.heap.size w w') : Is w' base p v m xs := by
  obtain ⟨D, h1, h2⟩ := h.map
  refine ⟨row_below h.row hb, own_later h.own hb, ⟨D, ?_, h2⟩, h.ge, h.few, h.small, h.once⟩
  exact h1.kept (row := none) ⟨hb.os, hb.tape, hb.output, hb.size, fun k hk _ => hb.block k hk⟩ (by simp)
theorem own_ne_pool {w : World} {base p n : Nat} {v : Value} {xs : List Value} {cs : Array Value} {fz : Nat × Nat} (h : w.ownsRow base 9 1 v n xs) (hr : w.heap[p]? = some (.cells cs 70 fz)) : v.ownBlock ≠ some p := by
  rcases h.2 with ⟨rfl, _⟩ | ⟨g, cap, cur, rfl, _, hr', _⟩
  · simp [Value.ownBlock]
  · intro e
    obtain rfl : g = p := by simpa [Value.ownBlock] using e
    rw [hr'] at hr
    have ht : 9 = 70 := by injection hr with e1; injection e1
    revert ht; decide
theorem own_ne_map {w : World} {base b n k : Nat} {v : Value} {xs : List Value} {t : TypeId} {R : Value → Option (DataW Unit × List MemPlace)} {D : DataW Unit} (h : w.ownsRow base 9 1 v n xs) (hm : w.ownsMap Tryz.prog t R b k D) : v.ownBlock ≠ some b := by
  rcases h.2 with ⟨rfl, _⟩ | ⟨g, cap, cur, rfl, _, hr', _⟩
  · simp [Value.ownBlock]
  · intro e
    obtain rfl : g = b := by simpa [Value.ownBlock] using e
    obtain ⟨es, clock, hb, _⟩ := hm
    rw [hr'] at hb
    cases hb
theorem row_ne_map {w : World} {b p k : Nat} {t t2 : TypeId} {cs : Array Value} {fz : Nat × Nat} {R : Value → Option (DataW Unit × List MemPlace)} {D : DataW Unit} (hr : w.heap[p]? = some (.cells cs t2 fz)) (hm : w.ownsMap Tryz.prog t R b k D) : p ≠ b := by
  rintro rfl
  obtain ⟨es, clock, hb, _⟩ := hm
  rw [hr] at hb
  cases hb
theorem own_set {w : World} {base n : Nat} {e : TypeId} {v u : Value} {xs : List Value} {p : Addr} (h : w.ownsRow base e 1 v n xs) (hp : v.ownBlock ≠ some p.block) : (w.setCell p u).ownsRow base e 1 v n xs := by
  refine ⟨h.1, ?_⟩
  rcases h.2 with hn | ⟨g, cap, cur, rfl, hb, hgg, rest⟩
  · exact .inl hn
  · exact .inr ⟨g, cap, cur, rfl, hb, by rw [Below.heap_setCell _ _ _ _ (fun e => hp (by simp [Value.ownBlock, e]))]; exact hgg, rest⟩
/-- the errors of pools -/
structure EL (w : World) (e : Nat → Addr) : Prop where
  s0 : Frame.Sent w 3 (Er.tx [116, 101, 120, 116]) (e 0)
  s1 : Frame.Sent w 0 (Er.tx [98, 111, 117, 110, 100]) (e 1)
  s4 : Frame.Sent w 2 (Er.tx [110, 111, 110, 101]) (e 4)
  s5 : Frame.Sent w 7 (Er.tx [101, 120, 105, 115, 116]) (e 5)
  s6 : Frame.Sent w 1 (Er.tx [102, 117, 108, 108]) (e 6)
theorem EL.below {w w' : World} {e : Nat → Addr} (h : EL w e) (hb : Below w.heap.size w w') : EL w' e := ⟨h.s0.below hb, h.s1.below hb, h.s4.below hb, h.s5.below hb, h.s6.below hb⟩
/-- the errors of a put -/
structure EQ (w : World) (e : Nat → Addr) : Prop where
  s1 : Frame.Sent w 0 (Er.tx [98, 111, 117, 110, 100]) (e 1)
  s6 : Frame.Sent w 1 (Er.tx [102, 117, 108, 108]) (e 6)
theorem EQ.below {w w' : World} {e : Nat → Addr} (h : EQ w e) (hb : Below w.heap.size w w') : EQ w' e := ⟨h.s1.below hb, h.s6.below hb⟩
theorem EL.q {w : World} {e : Nat → Addr} (h : EL w e) : EQ w e := ⟨h.s1, h.s6⟩
theorem far_of {S : Nat → Prop} {w w' : World} (hb : Below w.heap.size w w') : Far S w w' := ⟨hb.os, hb.tape, hb.output, hb.size, fun k hk _ => hb.block k hk⟩
set_option maxRecDepth 100000 in
theorem new_any (w : World) : Calls Tryz.prog 7 #[] w fun e w' => ∃ p v m, e = .returned (.pointer (some ⟨p, 0, none⟩)) ∧ Is w' w.heap.size p v m [] ∧ Below w.heap.size w w' := by
  have hmm := @run_makeMap Tryz.prog
  go_enter Tryz.func7, Tryz.ntmps7
  go_wp2
  go_ret
  have h1 := heap_new (w.alloc (.map #[] 0)) (.cells #[.slice none 0 0, .map (some w.heap.size)] 70)
  rw [World.size_alloc] at h1
  refine ⟨w.heap.size + 1, .slice none 0 0, w.heap.size, rfl, ⟨h1, ⟨rfl, .inl ⟨rfl, rfl⟩⟩, ⟨.map [], (World.ownsMap_made w _ _ _).alloc _, tells_nil⟩, ⟨by omega, by omega⟩, by simp, by simp, List.nodup_nil⟩, ?_⟩
  exact ((Below.refl _ w).alloc (Nat.le_refl _) _).alloc (by simp) _
/-- what a put does: the error's number, the text's number, the texts -/
def putC (xs : List (List UInt8)) (s : List UInt8) : Nat := if 10000 < s.length then 2 else if s ∈ xs then 0 else if 1000 ≤ xs.length then 7 else 0
def putN (xs : List (List UInt8)) (s : List UInt8) : Nat := if 10000 < s.length then 0 else if s ∈ xs then xs.idxOf s else if 1000 ≤ xs.length then 0 else xs.length
def putL (xs : List (List UInt8)) (s : List UInt8) : List (List UInt8) := if 10000 < s.length then xs else if s ∈ xs then xs else if 1000 ≤ xs.length then xs else xs ++ [s]
def PutPost (e : Nat → Addr) (w : World) (base p m : Nat) (v : Value) (xs : List (List UInt8)) (s : List UInt8) (er : Ending) (w' : World) : Prop :=
  ∃ v', er = .returned (.tuple #[.int .i64 (putN xs s : Nat), errV e (putC xs s)]) ∧ Is w' base p v' m (putL xs s) ∧ Far (fun k => k = p ∨ k = m ∨ some k = v.ownBlock) w w' ∧ (v'.ownBlock = v.ownBlock ∨ ∃ k, v'.ownBlock = some k ∧ w.heap.size ≤ k)
theorem string_info : (Tryz.prog.info? 9).map (fun i => (i.zero, i.size, i.bytes)) = some (some (.string ⟨#[]⟩), 1, 16) := by kernel_rfl
set_option maxRecDepth 100000 in
set_option maxHeartbeats 1000000 in
theorem put_any (w : World) (base p m : Nat) (v : Value) (xs : List (List UInt8)) (s : List UInt8) (e : Nat → Addr) (h : Is w base p v m xs) (he : EQ w e) (hs0 : s.length ≤ 9223372036854775807) :
    Calls Tryz.prog 8 #[.pointer (some ⟨p, 0, none⟩), .string (mk s)] w (PutPost e w base p m v xs s) := by
  obtain ⟨i0, hi0, hz0, hz1, hz2⟩ := info_parts string_info
  obtain ⟨D, hown, htl⟩ := h.map
  have k0 : w.cell? ⟨p, 0, none⟩ = some v := cell_of h.row rfl
  have k1 : w.cell? ⟨p, 1, none⟩ = some (.map (some m)) := cell_of h.row rfl
  have hkey := hkeyS (s := s) (by simpa [maxLen] using hs0)
  obtain ⟨a0, c0, rfl⟩ := ownsRow_slice h.own
  obtain ⟨S, hS⟩ : ∃ S, mk s = S := ⟨_, rfl⟩
  have hsz : S.size = s.length := by rw [← hS]; rfl
  rw [hS] at hkey ⊢
  have HS := Lib.hid hS
  have H := Lib.hid h
  have HE := Lib.hid he
  have HTL := Lib.hid htl
  clear hS h he htl
  by_cases hbig : 10000 < s.length
  · have hb1 : (10000 : Int) < (S.size : Int) := by omega
    have cE := HE.out.s1.cell
    have hc : putC xs s = 2 ∧ putN xs s = 0 ∧ putL xs s = xs := by unfold putC putN putL; rw [if_pos hbig, if_pos hbig, if_pos hbig]; exact ⟨rfl, rfl, rfl⟩
    have HC := Lib.hid hc
    clear hc hbig hown hkey hsz
    go_enter Tryz.func8, Tryz.ntmps8
    go_wp2_with fail
    go_quiet (fail)
    go_wp2
    go_ret2
    obtain ⟨c1, c2, c3⟩ := HC.out
    have hb := below_draw (Below.refl w.heap.size w) 1
    unfold PutPost
    rw [c1, c2, c3]
    exact ⟨_, rfl, H.out.below (below_draw (Below.refl _ w) _), far_of (below_draw (Below.refl _ w) _), .inl rfl⟩
  · have hb1 : ¬ (10000 : Int) < (S.size : Int) := by omega
    have HBIG := Lib.hid hbig
    clear hbig
    by_cases hm : s ∈ xs
    · have hhas : Maps.has D (ky s) = true := by rw [HTL.out.has, decide_eq_true hm]
      have hnum := HTL.out.num s hm
      have hc : putC xs s = 0 ∧ putN xs s = xs.idxOf s ∧ putL xs s = xs := by unfold putC putN putL; rw [if_neg HBIG.out, if_neg HBIG.out, if_neg HBIG.out, if_pos hm, if_pos hm, if_pos hm]; exact ⟨rfl, rfl, rfl⟩
      have HC := Lib.hid hc
      have HNUM := Lib.hid hnum
      clear hc hsz hnum hm
      go_enter Tryz.func8, Tryz.ntmps8
      go_wp2_with (at_lookup; refine wpList_lookup_own_ok_int _ rfl _ _ 68 rfl 9 3 .i64 lawS Tryz.underlying68 Tryz.underlying3 (zeroI _) m xs.length D rfl hown _ (ky s) rfl hkey ?_; intro c hat hwc; rw [HNUM.out] at hat; have hat2 := Lib.hid hat; clear hat)
      go_ret2
      obtain ⟨c1, c2, c3⟩ := HC.out
      have e1 := hat2.out
      unfold PutPost
      rw [c1, c2, c3]
      refine ⟨_, ?_, H.out, Far.refl _ w, .inl rfl⟩
      injection e1 with e2
      injection e2 with e3 e4
      rw [← e4]; rfl
    · have hhas : Maps.has D (ky s) = false := by rw [HTL.out.has, decide_eq_false hm]
      by_cases hful : 1000 ≤ xs.length
      · have hf1 : (1000 : Int) ≤ (xs.length : Int) := by omega
        have cE := HE.out.s6.cell
        have hc : putC xs s = 7 ∧ putN xs s = 0 ∧ putL xs s = xs := by unfold putC putN putL; rw [if_neg HBIG.out, if_neg HBIG.out, if_neg HBIG.out, if_neg hm, if_neg hm, if_neg hm, if_pos hful, if_pos hful, if_pos hful]; exact ⟨rfl, rfl, rfl⟩
        have HC := Lib.hid hc
        clear hc hsz hm hful
        go_enter Tryz.func8, Tryz.ntmps8
        go_wp2_with (at_lookup; refine wpList_lookup_own_ok_int _ rfl _ _ 68 rfl 9 3 .i64 lawS Tryz.underlying68 Tryz.underlying3 (zeroI _) m xs.length D rfl hown _ (ky s) rfl hkey ?_; intro c hat hwc; clear hat)
        go_quiet (fail)
        go_wp2
        go_ret2
        obtain ⟨c1, c2, c3⟩ := HC.out
        unfold PutPost
        rw [c1, c2, c3]
        exact ⟨_, rfl, H.out.below (below_draw (Below.refl _ w) _), far_of (below_draw (Below.refl _ w) _), .inl rfl⟩
      · have hf1 : ¬ (1000 : Int) ≤ (xs.length : Int) := by omega
        obtain ⟨w1, hrun, hown1, hturn⟩ := (hown.drew).store (key := .string S) (val := .int .i64 (xs.length : Nat)) lawS Tryz.underlying68 (by simp only [maxLen]; omega) hkey (plainElem_int Tryz.underlying3 (WalkArith.wf_i64 (by omega)))
        have HOWN1 := Lib.hid hown1
        have HTURN := Lib.hid hturn
        have HFUL := Lib.hid hful
        clear hown1 hturn hful
        go_enter Tryz.func8, Tryz.ntmps8
        go_wp2_with (at_lookup; refine wpList_lookup_own_ok_int _ rfl _ _ 68 rfl 9 3 .i64 lawS Tryz.underlying68 Tryz.underlying3 (zeroI _) m xs.length D rfl hown _ (ky s) rfl hkey ?_; intro c hat hwc; clear hat)
        go_region
        have hg := HTURN.out.grown
        have hpm := row_ne_map H.out.row hown
        have hrow1 : w1.heap[p]? = some (.cells #[.slice a0 xs.length c0, .map (some m)] 70 (0, 0)) := by
          rw [hg.block p (Array.getElem?_eq_some_iff.1 H.out.row).1 (fun e => hpm (by injection e))]; exact H.out.row
        have hor1 : w1.ownsRow base 9 1 (.slice a0 xs.length c0) xs.length (cellsS (xs.map mk)) := World.ownsRow.kept (w := w.drew) H.out.own hg (.inr (own_ne_map H.out.own hown))
        have j0 : w1.cell? ⟨p, 0, none⟩ = some (.slice a0 xs.length c0) := cell_of hrow1 rfl
        have hwx := heap_new w1 (.cells #[.string S] 9)
        have hbx : Below w1.heap.size w1 (w1.alloc (.cells #[.string S] 9)) := (Below.refl _ w1).alloc (Nat.le_refl _) _
        have hbase : base ≤ w1.heap.size := Nat.le_trans H.out.ge.1 (Nat.le_of_lt (Array.getElem?_eq_some_iff.1 hrow1).1)
        have HG := Lib.hid hg
        have HR1 := Lib.hid hrow1
        have HO1 := Lib.hid hor1
        have HBX := Lib.hid hbx
        have HBASE := Lib.hid hbase
        have HPM := Lib.hid hpm
        have hlen : xs.length < 1000 := by have := HFUL.out; omega
        clear hg hrow1 hor1 hbx hbase hpm hrun hown k0 k1 hwx
        go_wp2_with (first
          | (at_builtin
             refine wpList_append_own_at _ rfl (.tmp 44) (.tmp 46) _ rfl base 9 i0 _ 1 16 Tryz.underlying22 hi0 hz0 hz1 hz2 rfl (by omega) (.slice a0 xs.length c0) xs.length (cellsS (xs.map mk)) rfl
               (HO1.out.alloc _) ⟨w1.heap.size, 0, none⟩ 1 1 [.string S] rfl rfl (cell_one_new _ _ _) (fun u hu => by simp at hu; subst hu; rfl) (by simp only [maxLen]; omega) (by omega) (by simp; have := HBASE.out; omega) ?_
             intro v1 wb hown' hg2 hnil hloc
             obtain ⟨a1, c1, e1⟩ := ownsRow_slice hown'
             subst e1
             have hrb : wb.heap[p]? = some (.cells #[.slice a0 xs.length c0, .map (some m)] 70 (0, 0)) := by
               have hr2 := row_below HR1.out HBX.out
               rw [hg2.block p (Array.getElem?_eq_some_iff.1 hr2).1 (fun e => own_ne_pool (HO1.out.alloc _) hr2 e.symm)]; exact hr2
             have b0 : wb.frozen? ⟨p, 0, none⟩ = false := by simp [World.frozen?, hrb]
             have b1 : wb.cell? ⟨p, 0, none⟩ = some (.slice a0 xs.length c0) := cell_of hrb rfl
             have HRB := Lib.hid hrb
             have HOB := Lib.hid hown'
             have HG2 := Lib.hid hg2
             have HLOC := Lib.hid hloc
             clear hown' hg2 hnil hloc hrb))
        go_ret2
        have hc : putC xs s = 0 ∧ putN xs s = xs.length ∧ putL xs s = xs ++ [s] := by unfold putC putN putL; rw [if_neg HBIG.out, if_neg HBIG.out, if_neg HBIG.out, if_neg hm, if_neg hm, if_neg hm, if_neg HFUL.out, if_neg HFUL.out, if_neg HFUL.out]; exact ⟨rfl, rfl, rfl⟩
        obtain ⟨r1, r2, r3⟩ := hc
        unfold PutPost
        rw [r1, r2, r3]
        have hcs : cellsS ((xs ++ [s]).map mk) = cellsS (xs.map mk) ++ [.string S] := by rw [← HS.out]; simp [cellsS]
        have hmb : wb.ownsMap Tryz.prog 9 (plainElem (H := Unit) Tryz.prog 3) m (xs.length + 1) _ := (HOWN1.out.alloc _).kept HG2.out (fun e => own_ne_map HO1.out HOWN1.out e.symm)
        have hgs := HG.out.size
        refine ⟨_, rfl, ⟨row_set HRB.out 0 _, ?_, ⟨_, ?_, HTL.out.put hm⟩, H.out.ge, ?_, ?_, ?_⟩, ?_, ?_⟩
        · rw [hcs, List.length_append]
          exact own_set HOB.out (own_ne_pool HOB.out HRB.out)
        · rw [List.length_append]
          exact hmb.setCell (Ne.symm HPM.out) _
        · rw [List.length_append, List.length_singleton]; omega
        · intro t ht
          rcases List.mem_append.1 ht with ht | ht
          · exact H.out.small t ht
          · have := HBIG.out
            rw [List.mem_singleton] at ht; subst ht; omega
        · exact List.nodup_append.2 ⟨H.out.once, by simp, by intro a ha b hb e; rw [List.mem_singleton] at hb; subst hb; subst e; exact hm ha⟩
        · have f1 : Far (fun k => k = p ∨ k = m ∨ some k = Value.ownBlock (.slice a0 xs.length c0)) w.drew w1 := ⟨HG.out.os, HG.out.tape, HG.out.output, HG.out.size, fun k hk hs => HG.out.block k hk (fun e => hs (.inr (.inl (Option.some.inj e))))⟩
          refine ((f1.drew.trans (far_of HBX.out)).trans ⟨HG2.out.os, HG2.out.tape, HG2.out.output, HG2.out.size, fun k hk hs => HG2.out.block k hk (fun e => hs (.inr (.inr e)))⟩).set (p := ⟨p, 0, none⟩) (.inl rfl) _
        · rcases HLOC.out with h | h
          · exact .inl h
          · refine .inr ⟨_, h, ?_⟩
            have : w.heap.size ≤ w1.heap.size := hgs
            rw [World.size_alloc]; omega
theorem get_any (w : World) (base p m : Nat) (v : Value) (xs : List (List UInt8)) (k : Nat) (s : List UInt8) (h : Is w base p v m xs) (hk : xs[k]? = some s) :
    Calls Tryz.prog 15 #[.pointer (some ⟨p, 0, none⟩), .int .i64 (k : Int)] w fun e w' => e = .returned (.tuple #[.string (mk s), .nilIface]) ∧ Below w.heap.size w w' := by
  have k0 : w.cell? ⟨p, 0, none⟩ = some v := cell_of h.row rfl
  have hkl := (List.getElem?_eq_some_iff.1 hk).1
  rcases reads_ownS h.own (by simp) with ⟨h1, _⟩ | ⟨g, cap, rfl, _, _, h2⟩
  · have : xs = [] := by simpa using h1
    subst this
    simp at hkl
  · have c0 := h2 k (mk s) (by rw [List.getElem?_map, hk]; rfl)
    have hi0 : ¬ (k : Int) < 0 := by omega
    have hi1 : ¬ (xs.length : Int) ≤ (k : Int) := by omega
    have hi2 : (k : Int) < (xs.length : Int) := by omega
    have hl : (xs.map mk).length = xs.length := by simp
    rw [hl] at k0
    rw [Nat.zero_add] at c0
    have hfew := h.few
    clear h h2 hk
    go_enter Tryz.func15, Tryz.ntmps15
    go_wp2
    go_ret2
    exact ⟨rfl, Below.refl _ w⟩
theorem len_any (w : World) (base p m : Nat) (v : Value) (xs : List (List UInt8)) (h : Is w base p v m xs) :
    Calls Tryz.prog 14 #[.pointer (some ⟨p, 0, none⟩)] w fun e w' => e = .returned (.int .i64 (xs.length : Nat)) ∧ w' = w := by
  have k0 : w.cell? ⟨p, 0, none⟩ = some v := cell_of h.row rfl
  obtain ⟨a0, c0, rfl⟩ := ownsRow_slice h.own
  clear h
  go_enter Tryz.func14, Tryz.ntmps14
  go_wp2
  go_ret
  exact ⟨rfl, rfl⟩
end Pl
end Go.Proofs.YtmlndamkcipebaaGreatDoor
namespace Go.Proofs.YtmlndamkcipebaaGreatDoor
open Go Go.RowKit Lmd
namespace Pl
open Rul Day Cand Tp

/-- a text of a pool, and all of them -/
def entL (s : List UInt8) : List UInt8 := Lib.itoa (s.length : Int) ++ 58 :: (s ++ [10])
def entsL (xs : List (List UInt8)) : List UInt8 := xs.flatMap entL
theorem entsL_snoc (xs : List (List UInt8)) (s : List UInt8) : entsL (xs ++ [s]) = entsL xs ++ entL s := by simp [entsL]
theorem entL_le (s : List UInt8) (hs : s.length ≤ 1000000) : (entL s).length ≤ s.length + 30 := by
  have := Lib.itoa_length_le (s.length : Int) (by omega) (by omega)
  unfold entL
  simp only [List.length_append, List.length_cons, List.length_nil]
  omega
theorem entsL_le : ∀ (xs : List (List UInt8)), (∀ s ∈ xs, s.length ≤ 10000) → (entsL xs).length ≤ 10030 * xs.length
  | [], _ => by simp [entsL]
  | x :: xs, h => by
    have h1 := entL_le x (by have := h x (by simp); omega)
    have h2 := entsL_le xs (fun y hy => h y (by simp [hy]))
    have h3 := h x (by simp)
    have e : (entsL (x :: xs)).length = (entL x).length + (entsL xs).length := by simp [entsL]
    rw [e, List.length_cons]; omega
theorem ent_cat (s : List UInt8) : mk (entL s) = mk (Lib.itoa (s.length : Int)) ++ ⟨#[58]⟩ ++ mk s ++ ⟨#[10]⟩ := by
  have e1 : (⟨#[58]⟩ : ByteArray) = mk [58] := rfl
  have e2 : (⟨#[10]⟩ : ByteArray) = mk [10] := rfl
  rw [e1, e2, mk_cat, mk_cat, mk_cat]
  unfold entL
  simp
/-- the state of the loop of Text -/
structure TxAt (xs : List (List UInt8)) (b : Nat) (W1 : World) (k : Nat) (W : World) : Prop where
  bd : Bd.Is b b (entsL (xs.take k)) W
  low : Below b W1 W
  le : k ≤ xs.length
theorem take_snoc {xs : List (List UInt8)} {k : Nat} {x : List UInt8} (h : xs[k]? = some x) : entsL (xs.take (k + 1)) = entsL (xs.take k) ++ entL x := by
  obtain ⟨hk, rfl⟩ := List.getElem?_eq_some_iff.1 h
  rw [List.take_succ_eq_append_getElem hk, entsL_snoc]
set_option maxRecDepth 100000 in
set_option maxHeartbeats 1000000 in
theorem text_any (w : World) (base p m : Nat) (v : Value) (xs : List (List UInt8)) (h : Is w base p v m xs) (htab : Lib.TabIs Tryz.prog w "internal/strconv.uint64pow10" .u64 Lib.pow10Tab) :
    Calls Tryz.prog 12 #[.pointer (some ⟨p, 0, none⟩)] w fun e w' => e = .returned (.string (mk (entsL xs))) ∧ Below w.heap.size w w' := by
  have k0 : w.cell? ⟨p, 0, none⟩ = some v := cell_of h.row rfl
  obtain ⟨a0, c0, rfl⟩ := ownsRow_slice h.own
  have hB0 : Below w.heap.size w (w.alloc (.cells #[.pointer none, .slice none 0 0] 77)) := (Below.refl _ w).alloc (Nat.le_refl _) _
  have k1 := cell_later hB0 k0
  obtain ⟨W1, hW1⟩ : ∃ W1, w.alloc (.cells #[.pointer none, .slice none 0 0] 77) = W1 := ⟨_, rfl⟩
  have hB1 := hB0
  have hnew := Bd.new_is w
  rw [hW1] at hnew hB1
  have hsz1 : W1.heap.size = w.heap.size + 1 := by rw [← hW1]; simp
  have H := Lib.hid h
  have HT := Lib.hid htab
  have HW1 := Lib.hid hW1
  have HB1 := Lib.hid hB1
  have HNEW := Lib.hid hnew
  have HZ := Lib.hid hsz1
  have hfew := h.few
  clear h htab hW1 hB1 hnew hsz1 hB0
  go_enter Tryz.func12, Tryz.ntmps12
  go_wp2_with fail
  rw [HW1.out]
  clear k0 k1
  go_loopw [11] (fun i wr => ∃ k : Nat, i = .int .i64 k ∧ TxAt xs w.heap.size W1 k wr) (fun i _ => xs.length - (intOf i).toNat)
  case atStart => exact ⟨0, rfl, HNEW.out, Below.refl _ _, Nat.zero_le _⟩
  case round =>
    obtain ⟨k, rfl, hat⟩ := hrel
    have hle := hat.le
    have hall : Below w.heap.size w wr := HB1.out.trans hat.low
    have hszr : w.heap.size ≤ wr.heap.size := hall.size
    by_cases hlt : k < xs.length
    · obtain ⟨x, hx⟩ : ∃ x, xs[k]? = some x := ⟨_, List.getElem?_eq_getElem hlt⟩
      have hi1 : (k : Int) < (xs.length : Int) := by omega
      have hxs := H.out.small x (List.mem_of_getElem? hx)
      have hlen := entsL_le (xs.take k) (fun s hs => H.out.small s (List.mem_of_mem_take hs))
      have hlk : (xs.take k).length = k := by rw [List.length_take]; omega
      rw [hlk] at hlen
      have hel := entL_le x (by omega)
      rcases reads_ownS H.out.own (by simp) with ⟨h1, _⟩ | ⟨g, cap, h1, _, _, h2⟩
      · have : xs = [] := by simpa using h1
        subst this
        simp at hlt
      · have c0' := cell_later hall (h2 k (mk x) (by rw [List.getElem?_map, hx]; rfl))
        rw [Nat.zero_add] at c0'
        have hl : (xs.map mk).length = xs.length := by simp
        rw [hl] at h1
        obtain ⟨rfl, rfl⟩ : a0 = some ⟨g, 0, none⟩ ∧ c0 = cap := by cases h1; exact ⟨rfl, rfl⟩
        have hz : (mk x).size = x.length := rfl
        have hit := itoa_b (x.length : Int) (by omega) (by omega) wr (Frame.tab_below (g := 12) (by kernel_rfl) hall HT.out)
        have hil := Lib.itoa_length_le (x.length : Int) (by omega) (by omega)
        have hrc := ent_cat x
        obtain ⟨I, hI⟩ : ∃ I, Lib.itoa (x.length : Int) = I := ⟨_, rfl⟩
        obtain ⟨S, hS⟩ : ∃ S, mk x = S := ⟨_, rfl⟩
        rw [hI] at hit hil hrc
        rw [hS] at hrc hz c0'
        rw [← hz] at hit
        have hsz : S.size ≤ 10000 := by omega
        have HAT := Lib.hid hat
        have HALL := Lib.hid hall
        have HIT := Lib.hid hit
        have HRC := Lib.hid hrc
        have HX := Lib.hid hx
        have HEL := Lib.hid hel
        have HLEN := Lib.hid hlen
        have HXS := Lib.hid hxs
        clear hat hall hit hrc hx hel hlen h2 h1 hl hI hS hz hxs hlk
        go_wp2_with fail
        (with_reducible refine HIT.out.mono ?_)
        rintro e1 w1 ⟨rfl, hb1⟩
        have hbd := HAT.out.bd.below hb1
        have hw := Bd.write_any w.heap.size w.heap.size (entsL (xs.take k)) (mk (entL x)) w1 hbd (by have h1 := HLEN.out; have h2 := HEL.out; have h3 := HXS.out; show _ + (entL x).length ≤ _; omega) (by have := hb1.size; omega)
        rw [HRC.out] at hw
        have HW := Lib.hid hw
        have HB2 := Lib.hid hb1
        clear hbd hw hb1 HIT
        go_wp2_with fail
        (with_reducible refine HW.out.mono ?_)
        rintro e2 w2 ⟨rfl, hbd2, hb3⟩
        have hat2 : TxAt xs w.heap.size W1 (k + 1) w2 := by
          refine ⟨?_, HAT.out.low.trans ((HB2.out.mono hszr).trans hb3), hlt⟩
          rw [take_snoc HX.out]
          rw [← HRC.out] at hbd2
          exact hbd2
        have HAT2 := Lib.hid hat2
        clear hbd2 hb3 hat2
        go_wp2_with fail
        go_roundw
        case rel => exact ⟨k + 1, by go_num, HAT2.out⟩
        case measure => simp [intOf]; omega
    · obtain rfl : k = xs.length := by omega
      have hi1 : ¬ (xs.length : Int) < (xs.length : Int) := by omega
      have hbd := hat.bd
      rw [List.take_length] at hbd
      have HBD := Lib.hid hbd
      have HALL := Lib.hid hall
      clear hbd hat hall
      go_wp2_with fail
      refine (Bd.string_any w.heap.size w.heap.size (entsL xs) _ HBD.out hszr).mono ?_
      rintro e3 w3 ⟨rfl, hb3⟩
      have HF := Lib.hid (HALL.out.trans hb3)
      clear hb3
      go_wp2_with fail
      go_ret
      exact ⟨rfl, HF.out⟩
end Pl
end Go.Proofs.YtmlndamkcipebaaGreatDoor
namespace Go.Proofs.YtmlndamkcipebaaGreatDoor
open Go Go.RowKit Lmd
namespace Pl
open Rul Day Cand Tp Pk

/-- the first text: the error's number, the text, what is behind it -/
def takeX (l : List UInt8) : Nat × List UInt8 × List UInt8 :=
  if lenOk 58 l = true then
    if 10000 < lenN 58 l then (2, [], [])
    else if (lenR 58 l)[(lenN 58 l).toNat]? = some 10 then (0, (lenR 58 l).take (lenN 58 l).toNat, (lenR 58 l).drop ((lenN 58 l).toNat + 1))
    else (1, [], [])
  else (1, [], [])
set_option maxRecDepth 100000 in
set_option maxHeartbeats 1000000 in
theorem take_any (l : List UInt8) (e : Nat → Addr) (m : Int) (w : World) (hs : l.length ≤ 2000000) (he : EL w e) (hE : ELib w) (htab : Lib.TabIs Tryz.prog w "internal/strconv.uint64pow10" .u64 Lib.pow10Tab) (hm : w.cell? ⟨13, 0, none⟩ = some (.int .i64 m)) :
    Calls Tryz.prog 46 #[.string (mk l)] w fun er w' => er = .returned (.tuple #[.string (mk (takeX l).2.1), .string (mk (takeX l).2.2), errV e (takeX l).1]) ∧ Below w.heap.size w w' := by
  have hl := length_any (mk l) m w hs hE htab hm
  have e0 : (mk l).data.toList = l := rfl
  rw [e0] at hl
  have hlen : (lenR 58 l).length ≤ 2000000 := Nat.le_trans (lenR_le 58 l) hs
  obtain ⟨A, hA⟩ : ∃ A, mk l = A := ⟨_, rfl⟩
  rw [hA] at hl ⊢
  have HL := Lib.hid hl
  have HE := Lib.hid he
  clear hl hE htab hm he e0 hA
  obtain ⟨R, hR⟩ : ∃ R, lenR 58 l = R := ⟨_, rfl⟩
  obtain ⟨n, hn⟩ : ∃ n, lenN 58 l = n := ⟨_, rfl⟩
  obtain ⟨k, hk⟩ : ∃ k, lenOk 58 l = k := ⟨_, rfl⟩
  have htk : takeX l = if k = true then if 10000 < n then (2, [], []) else if R[n.toNat]? = some 10 then (0, R.take n.toNat, R.drop (n.toNat + 1)) else (1, [], []) else (1, [], []) := by unfold takeX; rw [hk, hn, hR]
  unfold LenPost at HL
  rw [hR, hn, hk] at HL
  rw [hR] at hlen
  have hpos : k = true → 0 ≤ n := fun h => by rw [← hn]; exact (len_split (by rw [hk]; exact h)).2.1
  have HT := Lib.hid htk
  have HP := Lib.hid hpos
  clear hR hn hk htk hpos
  have hrz : (mk R).size = R.length := by simp [ByteArray.size]
  obtain ⟨S, hS⟩ : ∃ S, mk R = S := ⟨_, rfl⟩
  have hSR : S.data.toList = R := by rw [← hS]
  rw [hS] at HL hrz
  have HSR := Lib.hid hSR
  clear hS hSR
  go_enter Tryz.func46, Tryz.ntmps46
  go_wp2_with fail
  (with_reducible refine HL.out.mono ?_)
  rintro e1 w1 ⟨n', rfl, hn', hb1⟩
  have c0 := (HE.out.below hb1).s0.cell
  have c1 := (HE.out.below hb1).s1.cell
  have HB := Lib.hid hb1
  clear hb1 HL
  cases k with
  | false =>
    have ht : takeX l = (1, [], []) := by rw [HT.out]; rfl
    have HTK := Lib.hid ht
    clear hn' HT HP ht
    go_wp2_with fail
    go_quiet (fail)
    go_wp2
    go_ret3
    exact ⟨by rw [HTK.out]; rfl, below_draw HB.out _⟩
  | true =>
    obtain rfl : n' = n := hn' rfl
    have h0 : 0 ≤ n' := HP.out rfl
    clear hn' HP
    by_cases h1 : 10000 < n'
    · have ht : takeX l = (2, [], []) := by rw [HT.out, if_pos rfl, if_pos h1]
      have HTK := Lib.hid ht
      clear HT ht
      go_wp2_with fail
      go_quiet (fail)
      go_wp2
      go_ret3
      exact ⟨by rw [HTK.out]; rfl, below_draw HB.out _⟩
    · obtain ⟨j, rfl⟩ : ∃ j : Nat, n' = (j : Int) := ⟨n'.toNat, by omega⟩
      have hjn : ((j : Int)).toNat = j := by simp
      by_cases h2 : j < R.length
      · obtain ⟨y, hy⟩ : ∃ y, R[j]? = some y := ⟨_, List.getElem?_eq_getElem h2⟩
        have hjT : j < S.size := by omega
        have hTy : (S[j] : UInt8) = y := at_of S j y hjT (by rw [HSR.out]; exact hy)
        have hj3 : ¬ ((S.size : Int) ≤ (j : Int)) := by omega
        have hj4 : (j : Int) < (S.size : Int) := by omega
        have hj5 : j + 1 ≤ S.size := by omega
        have hj7 : j ≤ S.size := by omega
        have hj6 : (j : Int) + 1 ≤ (S.size : Int) := by omega
        have hSs : S.size ≤ 2000000 := by omega
        have HZ := Lib.hid hrz
        have HY := Lib.hid hy
        clear hy h2 hrz
        by_cases h3 : y = 10
        · subst h3
          have hext0 : S.extract 0 j = mk (R.take j) := mk_of (by rw [ext_take, HSR.out])
          have hext1 : S.extract (j + 1) S.size = mk (R.drop (j + 1)) := mk_of (by
            rw [ext_mid, HSR.out]
            exact List.take_of_length_le (by rw [List.length_drop]; have := HZ.out; omega))
          have ht : takeX l = (0, R.take j, R.drop (j + 1)) := by rw [HT.out, if_pos rfl, if_neg h1, hjn, HY.out, if_pos rfl]
          have HTK := Lib.hid ht
          have hs1 : IntKind.i64.wrap ((j : Int) + 1) = (j : Int) + 1 := IntWalk.i64_in _ (by omega)
          have hs2 : (0 : Int) ≤ (j : Int) + 1 := by omega
          have hs3 : ((j : Int) + 1).toNat = j + 1 := by omega
          clear HT ht
          go_upto_region 8 with fail
          go_cut [2, 3, 4] from 33 (fun s2 s3 s4 wx => s2 = .string (mk (R.take j)) ∧ s3 = .string (mk (R.drop (j + 1))) ∧ s4 = .nilIface ∧ Below w.heap.size w wx)
          case first =>
            go_region_law (fail)
            all_goals simp only [List.getElem_toArray, List.getElem_cons_succ, List.getElem_cons_zero, Act.put, List.setIfInBounds_toArray, List.set_cons_succ, List.set_cons_zero]
            all_goals go_wp2_with fail
            all_goals go_meet
            all_goals exact ⟨rfl, rfl, rfl, below_drew' HB.out⟩
          case rest =>
            obtain ⟨rfl, rfl, rfl, hbx⟩ := hcut
            go_wp2
            go_ret3
            exact ⟨by rw [HTK.out]; rfl, hbx⟩
        · have ht : takeX l = (1, [], []) := by rw [HT.out, if_pos rfl, if_neg h1, hjn, HY.out, if_neg (by simpa using h3)]
          have HTK := Lib.hid ht
          have hy3 : ((y.toNat : Int) != 10) = true := by
            rw [bne_iff_ne]
            intro e
            exact h3 (UInt8.toNat_inj.1 (by show y.toNat = 10; omega))
          clear HT ht h3
          go_wp2_with fail
          go_quiet (fail)
          go_wp2
          go_ret3
          exact ⟨by rw [HTK.out]; rfl, below_draw HB.out _⟩
      · have ht : takeX l = (1, [], []) := by rw [HT.out, if_pos rfl, if_neg h1, hjn, List.getElem?_eq_none (by omega)]; rfl
        have HTK := Lib.hid ht
        have hj3 : (S.size : Int) ≤ (j : Int) := by omega
        clear HT ht
        go_wp2_with fail
        go_quiet (fail)
        go_wp2
        go_ret3
        exact ⟨by rw [HTK.out]; rfl, below_draw HB.out _⟩
end Pl
end Go.Proofs.YtmlndamkcipebaaGreatDoor
namespace Go.Proofs.YtmlndamkcipebaaGreatDoor
open Go Go.RowKit Lmd
namespace Pl
open Rul Day Cand Tp Pk

set_option maxRecDepth 100000 in
theorem find_any (w : World) (base p m : Nat) (v : Value) (xs : List (List UInt8)) (s : List UInt8) (h : Is w base p v m xs) (hs0 : s.length ≤ 9223372036854775807) :
    Calls Tryz.prog 16 #[.pointer (some ⟨p, 0, none⟩), .string (mk s)] w fun er w' => (∃ c, er = .returned (.tuple #[.int .i64 c, .bool (decide (s ∈ xs))])) ∧ w' = w := by
  obtain ⟨D, hown, htl⟩ := h.map
  have k1 : w.cell? ⟨p, 1, none⟩ = some (.map (some m)) := cell_of h.row rfl
  have hkey := hkeyS (s := s) (by simpa [maxLen] using hs0)
  have hhas := htl.has s
  obtain ⟨q, hq⟩ : ∃ q, decide (s ∈ xs) = q := ⟨_, rfl⟩
  rw [hq] at hhas ⊢
  obtain ⟨S, hS⟩ : ∃ S, mk s = S := ⟨_, rfl⟩
  rw [hS] at hkey ⊢
  clear hS h htl hq
  go_enter Tryz.func16, Tryz.ntmps16
  go_wp2_with (at_lookup; refine wpList_lookup_own_ok_int _ rfl _ _ 68 rfl 9 3 .i64 lawS Tryz.underlying68 Tryz.underlying3 (zeroI _) m xs.length D rfl hown _ (ky s) rfl hkey ?_; intro c hat hwc; clear hat)
  go_ret2
  exact ⟨⟨_, rfl⟩, rfl⟩
/-- a fresh text's error -/
def freshC (xs : List (List UInt8)) (s : List UInt8) : Nat := if s ∈ xs then 6 else putC xs s
theorem putL_mem {xs : List (List UInt8)} {s : List UInt8} (h : s ∈ xs) : putL xs s = xs := by
  unfold putL
  simp [h]
set_option maxRecDepth 100000 in
theorem fresh_any (w : World) (base p m : Nat) (v : Value) (xs : List (List UInt8)) (s : List UInt8) (e : Nat → Addr) (h : Is w base p v m xs) (he : EL w e) (hs0 : s.length ≤ 9223372036854775807) :
    Calls Tryz.prog 47 #[.pointer (some ⟨p, 0, none⟩), .string (mk s)] w fun er w' => ∃ v', er = .returned (errV e (freshC xs s)) ∧ Is w' base p v' m (putL xs s) ∧ Far (fun k => k = p ∨ k = m ∨ some k = v.ownBlock) w w' ∧ (v'.ownBlock = v.ownBlock ∨ ∃ k, v'.ownBlock = some k ∧ w.heap.size ≤ k) := by
  have hf := find_any w base p m v xs s h hs0
  have hp := put_any w base p m v xs s e h he.q hs0
  have HF := Lib.hid hf
  have HP := Lib.hid hp
  have HE := Lib.hid he
  have H := Lib.hid h
  obtain ⟨S, hS⟩ : ∃ S, mk s = S := ⟨_, rfl⟩
  rw [hS] at HF HP ⊢
  clear hf hp he h hS
  by_cases hm : s ∈ xs
  · have hc : freshC xs s = 6 ∧ putL xs s = xs := ⟨by unfold freshC; rw [if_pos hm], putL_mem hm⟩
    have hd : decide (s ∈ xs) = true := decide_eq_true hm
    rw [hd] at HF
    have cE := HE.out.s5.cell
    have HC := Lib.hid hc
    clear hc hm hd HP
    go_enter Tryz.func47, Tryz.ntmps47
    go_wp2_with fail
    (with_reducible refine HF.out.mono ?_)
    rintro e1 w1 ⟨⟨c, rfl⟩, rfl⟩
    go_wp2
    go_ret
    rw [HC.out.1, HC.out.2]
    exact ⟨v, rfl, H.out, Far.refl _ _, .inl rfl⟩
  · have hc : freshC xs s = putC xs s := by unfold freshC; rw [if_neg hm]
    have hd : decide (s ∈ xs) = false := decide_eq_false hm
    rw [hd] at HF
    have HC := Lib.hid hc
    clear hc hm hd
    go_enter Tryz.func47, Tryz.ntmps47
    go_wp2_with fail
    (with_reducible refine HF.out.mono ?_)
    rintro e1 w1 ⟨⟨c, rfl⟩, rfl⟩
    go_wp2_with fail
    (with_reducible refine HP.out.mono ?_)
    rintro e2 w2 ⟨v', rfl, h1, h2, h3⟩
    have HH := Lib.hid (And.intro h1 (And.intro h2 h3))
    clear h1 h2 h3
    go_wp2
    go_ret
    rw [HC.out]
    exact ⟨v', rfl, HH.out.1, HH.out.2.1, HH.out.2.2⟩
/-- a pool is read: the error's number, the texts till then -/
def readT : Nat → List (List UInt8) → List UInt8 → Nat × List (List UInt8)
  | 0, xs, _ => (0, xs)
  | k + 1, xs, l => if l = [] then (0, xs) else if (takeX l).1 ≠ 0 then ((takeX l).1, xs) else if freshC xs (takeX l).2.1 ≠ 0 then (freshC xs (takeX l).2.1, xs) else readT k (putL xs (takeX l).2.1) (takeX l).2.2
theorem takeX_len {l : List UInt8} (h : (takeX l).1 = 0) : (takeX l).2.2.length < l.length ∧ (takeX l).2.1.length ≤ 10000 := by
  unfold takeX at h ⊢
  split at h
  · rename_i h1
    split at h
    · cases h
    · rename_i h2
      split at h
      · rename_i h3
        have hl := lenR_le 58 l
        have hi := (List.getElem?_eq_some_iff.1 h3).1
        rw [if_pos h1, if_neg h2, if_pos h3]
        have h0 := (len_split h1).2.1
        simp only [List.length_drop, List.length_take]
        omega
      · cases h
  · cases h
theorem readT_fuel : ∀ (k j : Nat) (xs : List (List UInt8)) (l : List UInt8), l.length ≤ k → l.length ≤ j → readT k xs l = readT j xs l
  | 0, j, xs, l, h, _ => by
    have : l = [] := List.length_eq_zero_iff.1 (by omega)
    subst this
    cases j <;> rfl
  | k + 1, 0, xs, l, _, h => by
    have : l = [] := List.length_eq_zero_iff.1 (by omega)
    subst this; rfl
  | k + 1, j + 1, xs, l, h1, h2 => by
    simp only [readT]
    split
    · rfl
    · split
      · rfl
      · split
        · rfl
        · rename_i h3 h4 h5
          have := (takeX_len (l := l) (by simpa using h4)).1
          exact readT_fuel k j _ _ (by omega) (by omega)
def readF (xs : List (List UInt8)) (l : List UInt8) : Nat × List (List UInt8) := readT l.length xs l
theorem readF_nil (xs : List (List UInt8)) : readF xs [] = (0, xs) := rfl
theorem readF_step {xs : List (List UInt8)} {l : List UInt8} (hl : l ≠ []) (h1 : (takeX l).1 = 0) (h2 : freshC xs (takeX l).2.1 = 0) : readF xs l = readF (putL xs (takeX l).2.1) (takeX l).2.2 := by
  have hk := (takeX_len h1).1
  obtain ⟨x, r, rfl⟩ := List.exists_cons_of_ne_nil hl
  show readT (r.length + 1) xs (x :: r) = _
  simp only [readT, reduceCtorEq, if_false, h1, h2, ne_eq, not_true_eq_false]
  rw [List.length_cons] at hk
  exact readT_fuel _ _ _ _ (by omega) (Nat.le_refl _)
theorem readF_bad1 {xs : List (List UInt8)} {l : List UInt8} (hl : l ≠ []) (h1 : (takeX l).1 ≠ 0) : readF xs l = ((takeX l).1, xs) := by
  obtain ⟨x, r, rfl⟩ := List.exists_cons_of_ne_nil hl
  show readT (r.length + 1) xs (x :: r) = _
  simp only [readT, reduceCtorEq, if_false, ne_eq, h1, not_false_eq_true, if_true]
theorem readF_bad2 {xs : List (List UInt8)} {l : List UInt8} (hl : l ≠ []) (h1 : (takeX l).1 = 0) (h2 : freshC xs (takeX l).2.1 ≠ 0) : readF xs l = (freshC xs (takeX l).2.1, xs) := by
  obtain ⟨x, r, rfl⟩ := List.exists_cons_of_ne_nil hl
  show readT (r.length + 1) xs (x :: r) = _
  simp only [readT, reduceCtorEq, if_false, ne_eq, h1, h2, not_true_eq_false, not_false_eq_true, if_true]
end Pl
end Go.Proofs.YtmlndamkcipebaaGreatDoor
namespace Go.Proofs.YtmlndamkcipebaaGreatDoor
open Go Go.RowKit Lmd
namespace Pl
open Rul Day Cand Tp Pk

/-- what lies behind pool.Read -/
def ReadPost (e : Nat → Addr) (l : List UInt8) (w : World) (er : Ending) (w' : World) : Prop :=
  if 1048576 < l.length then er = .returned (.tuple #[.pointer none, errV e 2]) ∧ Below w.heap.size w w'
  else if (readF [] l).1 = 0 then ∃ p v m, er = .returned (.tuple #[.pointer (some ⟨p, 0, none⟩), .nilIface]) ∧ Is w' w.heap.size p v m (readF [] l).2 ∧ Below w.heap.size w w'
  else ∃ f, er = .returned (.tuple #[.pointer none, .iface 82 (.pointer (some ⟨f, 0, none⟩))]) ∧ w'.heap[f]? = some (.cells #[.int .i64 ((readF [] l).2.length : Nat), errV e (readF [] l).1] 84 (0, 0)) ∧ w.heap.size ≤ f ∧ Below w.heap.size w w'
/-- the state of the loop of Read -/
structure RdAt (l0 : List UInt8) (w : World) (p m : Nat) (v : Value) (xs : List (List UInt8)) (l : List UInt8) (W : World) : Prop where
  rel : readF [] l0 = readF xs l
  pl : Is W w.heap.size p v m xs
  low : Below w.heap.size w W
  len : l.length ≤ l0.length
theorem fresh_same {xs : List (List UInt8)} {t : List UInt8} (h : freshC xs t ≠ 0) : putL xs t = xs := by
  by_cases h1 : t ∈ xs
  · exact putL_mem h1
  · by_cases h2 : 10000 < t.length
    · unfold putL; rw [if_pos h2]
    · by_cases h3 : 1000 ≤ xs.length
      · unfold putL; rw [if_neg h2, if_neg h1, if_pos h3]
      · exfalso; apply h
        unfold freshC putC; rw [if_neg h1, if_neg h2, if_neg h1, if_neg h3]
set_option maxRecDepth 100000 in
set_option maxHeartbeats 1000000 in
theorem read_any (l : List UInt8) (e : Nat → Addr) (m0 : Int) (w : World) (hs : l.length ≤ 9223372036854775807) (he : EL w e) (hE : ELib w) (htab : Lib.TabIs Tryz.prog w "internal/strconv.uint64pow10" .u64 Lib.pow10Tab) (hm : w.cell? ⟨13, 0, none⟩ = some (.int .i64 m0)) :
    Calls Tryz.prog 18 #[.string (mk l)] w (ReadPost e l w) := by
  have HE := Lib.hid he
  have HEE := Lib.hid hE
  have HT := Lib.hid htab
  have HM := Lib.hid hm
  have hsz : (mk l).size = l.length := rfl
  by_cases hbig : 1048576 < l.length
  · have hb1 : (1048576 : Int) < (l.length : Int) := by omega
    have cE := he.s1.cell
    clear he hE htab hm
    go_enter Tryz.func18, Tryz.ntmps18
    go_wp2_with fail
    go_quiet (fail)
    go_wp2
    go_ret2
    unfold ReadPost
    rw [if_pos hbig]
    exact ⟨rfl, below_draw (Below.refl _ w) _⟩
  · have hb1 : ¬ (1048576 : Int) < (l.length : Int) := by omega
    have hn := new_any w
    have HN := Lib.hid hn
    clear he hE htab hm hn
    go_enter Tryz.func18, Tryz.ntmps18
    go_wp2_with fail
    (with_reducible refine HN.out.mono ?_)
    rintro e1 w1 ⟨p, v, m, rfl, his, hb⟩
    have HIS := Lib.hid his
    have HB := Lib.hid hb
    clear his hb HN
    go_wp2_with fail
    go_loopw [0] (fun sv wr => ∃ r xs v', sv = .string (mk r) ∧ RdAt l w p m v' xs r wr) (fun sv _ => (match sv with | .string s => s.size | _ => 0))
    case atStart => exact ⟨l, [], v, rfl, rfl, HIS.out, HB.out, Nat.le_refl _⟩
    case round =>
      obtain ⟨r, xs, v', rfl, hat⟩ := hrel
      cases r with
      | nil =>
        have HAT := Lib.hid hat
        have he : (mk []).toList = [] := toListMk _
        clear hat
        go_wp2
        go_ret2
        unfold ReadPost
        rw [if_neg hbig, HAT.out.rel, readF_nil, if_pos rfl]
        exact ⟨p, v', m, rfl, HAT.out.pl, HAT.out.low⟩
      | cons x r =>
        have hlen := hat.len
        rw [List.length_cons] at hlen
        have hsb := hat.low.size
        have ht := take_any (x :: r) e m0 wr (by rw [List.length_cons]; omega) (HE.out.below hat.low) (HEE.out.below hat.low) (Frame.tab_below (g := 12) (by kernel_rfl) hat.low HT.out) (cell_later hat.low HM.out)
        have he : (mk (x :: r)).toList = x :: r := toListMk _
        obtain ⟨S, hS⟩ : ∃ S, mk (x :: r) = S := ⟨_, rfl⟩
        have hSz : S.size = r.length + 1 := by rw [← hS]; simp [ByteArray.size]
        rw [hS] at ht he ⊢
        have HTK := Lib.hid ht
        have HAT := Lib.hid hat
        have HSZ := Lib.hid hSz
        clear ht hat hS hSz
        go_wp2_with fail
        (with_reducible refine HTK.out.mono ?_)
        rintro e2 w2 ⟨rfl, hb2⟩
        have hlow2 := HAT.out.low.trans (hb2.mono hsb)
        have hpl2 := HAT.out.pl.below hb2
        have HLOW2 := Lib.hid hlow2
        have HPL2 := Lib.hid hpl2
        clear hb2 hlow2 hpl2 HTK
        cases hc : (takeX (x :: r)).1 with
        | succ c =>
          have hbad := readF_bad1 (xs := xs) (l := x :: r) (by simp) (by rw [hc]; simp)
          rw [hc] at hbad
          have hln := len_any w2 _ p m v' xs HPL2.out
          have HLN := Lib.hid hln
          have HBAD := Lib.hid hbad
          clear hc hbad hln
          simp only [errV]
          go_wp2_with fail
          (with_reducible refine HLN.out.mono ?_)
          rintro e3 w3 ⟨rfl, rfl⟩
          go_wp2_with fail
          go_ret2
          unfold ReadPost
          rw [if_neg hbig, HAT.out.rel, HBAD.out, if_neg (by simp)]
          exact ⟨_, rfl, heap_new _ _, HLOW2.out.size, HLOW2.out.alloc HLOW2.out.size _⟩
        | zero =>
          have htl := takeX_len hc
          obtain ⟨t, ht⟩ : ∃ t, (takeX (x :: r)).2.1 = t := ⟨_, rfl⟩
          obtain ⟨r2, hr2⟩ : ∃ r2, (takeX (x :: r)).2.2 = r2 := ⟨_, rfl⟩
          have hst := readF_step (xs := xs) (l := x :: r) (by simp) hc
          have hbd := readF_bad2 (xs := xs) (l := x :: r) (by simp) hc
          rw [ht, hr2] at hst htl
          rw [ht] at hbd
          rw [ht, hr2]
          have hfr := fresh_any w2 w.heap.size p m v' xs t e HPL2.out (HE.out.below HLOW2.out) (by omega)
          have HFR := Lib.hid hfr
          have HST := Lib.hid hst
          have HBD := Lib.hid hbd
          have HTL := Lib.hid htl
          clear hc ht hr2 hst hbd htl hfr
          simp only [errV]
          go_wp2_with fail
          (with_reducible refine HFR.out.mono ?_)
          rintro e3 w3 ⟨v3, rfl, hpl3, hfar3, _⟩
          have hge2 := HPL2.out
          have hlow3 : Below w.heap.size w w3 := HLOW2.out.trans (hfar3.below (fun k hk => by
            rcases hk with rfl | rfl | hk
            · exact hge2.ge.1
            · exact hge2.ge.2
            · exact own_ge hge2.own hk.symm) HLOW2.out.size)
          have HPL3 := Lib.hid hpl3
          have HLOW3 := Lib.hid hlow3
          clear hpl3 hfar3 hlow3 HFR hge2
          cases hc2 : freshC xs t with
          | succ c =>
            have hbad := HBD.out (by rw [hc2]; simp)
            rw [hc2] at hbad
            have hsame : putL xs t = xs := fresh_same (by rw [hc2]; simp)
            have hln := len_any w3 _ p m v3 _ HPL3.out
            rw [hsame] at hln
            have HLN := Lib.hid hln
            have HBAD := Lib.hid hbad
            clear hc2 hbad hln hsame
            simp only [errV]
            go_wp2_with fail
            (with_reducible refine HLN.out.mono ?_)
            rintro e4 w4 ⟨rfl, rfl⟩
            go_wp2_with fail
            go_ret2
            unfold ReadPost
            rw [if_neg hbig, HAT.out.rel, HBAD.out, if_neg (by simp)]
            exact ⟨_, rfl, heap_new _ _, HLOW3.out.size, HLOW3.out.alloc HLOW3.out.size _⟩
          | zero =>
            have hst := HST.out hc2
            have HST2 := Lib.hid hst
            clear hc2 hst
            simp only [errV]
            go_wp2_with fail
            go_roundw
            case rel =>
              refine ⟨r2, putL xs t, v3, rfl, HAT.out.rel.trans HST2.out, HPL3.out, HLOW3.out, ?_⟩
              have h1 := HTL.out.1
              have h2 := HAT.out.len
              omega
            case measure =>
              have h1 := HTL.out.1
              have h2 := HSZ.out
              rw [List.length_cons] at h1
              show (mk r2).size < S.size
              have h3 : (mk r2).size = r2.length := rfl
              omega
end Pl
end Go.Proofs.YtmlndamkcipebaaGreatDoor
namespace Go.Proofs.YtmlndamkcipebaaGreatDoor
open Go Go.RowKit Lmd
namespace Pl
open Rul Day Cand Tp Pk

theorem takeX_ent (s t : List UInt8) (hs : s.length ≤ 10000) : takeX (entL s ++ t) = (0, s, t) := by
  have e : entL s ++ t = Lib.itoa (s.length : Int) ++ 58 :: (s ++ 10 :: t) := by unfold entL; simp
  obtain ⟨h1, h2, h3⟩ := len_of (c := 58) (by decide) (n := (s.length : Int)) (by omega) (by omega) (s ++ 10 :: t)
  have hn : ((s.length : Int)).toNat = s.length := by simp
  have hg : (s ++ 10 :: t)[s.length]? = some 10 := by simp
  unfold takeX
  rw [e, h1, h2, h3, hn, if_pos rfl, if_neg (by omega), if_pos hg]
  have e1 : (s ++ 10 :: t).take s.length = s := by simp
  have e2 : (s ++ 10 :: t).drop (s.length + 1) = t := by
    have h := List.drop_append (l₁ := s) (l₂ := 10 :: t) (i := s.length + 1)
    rw [h, List.drop_eq_nil_of_le (by omega)]
    simp
  rw [e1, e2]
theorem put_new {xs : List (List UInt8)} {s : List UInt8} (hs : s.length ≤ 10000) (hn : s ∉ xs) (hf : xs.length < 1000) : putC xs s = 0 ∧ putN xs s = xs.length ∧ putL xs s = xs ++ [s] := by
  have h0 : ¬ 10000 < s.length := by omega
  have h1 : ¬ 1000 ≤ xs.length := by omega
  unfold putC putN putL
  simp only [if_neg h0, if_neg hn, if_neg h1]
  exact ⟨trivial, trivial, trivial⟩
theorem put_old {xs : List (List UInt8)} {s : List UInt8} (hs : s.length ≤ 10000) (hn : s ∈ xs) : putC xs s = 0 ∧ putN xs s = xs.idxOf s ∧ putL xs s = xs := by
  have h0 : ¬ 10000 < s.length := by omega
  unfold putC putN putL
  simp only [if_neg h0, if_pos hn]
  exact ⟨trivial, trivial, trivial⟩
theorem readF_ents : ∀ (ys xs : List (List UInt8)), (xs ++ ys).Nodup → (xs ++ ys).length ≤ 1000 → (∀ s ∈ ys, s.length ≤ 10000) → readF xs (entsL ys) = (0, xs ++ ys)
  | [], xs, _, _, _ => by
    have : entsL [] = [] := rfl
    rw [this, readF_nil, List.append_nil]
  | y :: ys, xs, hd, hl, hs => by
    have e : entsL (y :: ys) = entL y ++ entsL ys := by simp [entsL]
    have ht := takeX_ent y (entsL ys) (hs y (by simp))
    have hy : y ∉ xs := by
      intro h
      have := (List.nodup_append.1 hd).2.2 y h y (by simp)
      exact this rfl
    rw [List.length_append, List.length_cons] at hl
    obtain ⟨p1, _, p3⟩ := put_new (hs y (by simp)) hy (by omega)
    have hne : entL y ++ entsL ys ≠ [] := by unfold entL; simp
    have hf : freshC xs (takeX (entL y ++ entsL ys)).2.1 = 0 := by rw [ht]; unfold freshC; rw [if_neg hy, p1]
    rw [e, readF_step hne (by rw [ht]) hf, ht]
    show readF (putL xs y) (entsL ys) = _
    have e2 : xs ++ y :: ys = (xs ++ [y]) ++ ys := by simp
    rw [p3, e2]
    refine readF_ents ys (xs ++ [y]) (by rw [← e2]; exact hd) ?_ (fun s h => hs s (by simp [h]))
    rw [← e2, List.length_append, List.length_cons]; omega
/-- behind a put of a short text to a small pool -/
theorem put_any_num {xs : List (List UInt8)} {s : List UInt8} (hs : s.length ≤ 10000) (hf : xs.length < 1000) : putC xs s = 0 ∧ putN xs s = (putL xs s).idxOf s ∧ s ∈ putL xs s ∧ (∀ t ∈ xs, t ∈ putL xs s ∧ (putL xs s).idxOf t = xs.idxOf t) ∧ (putL xs s).length ≤ xs.length + 1 := by
  by_cases h : s ∈ xs
  · obtain ⟨h1, h2, h3⟩ := put_old hs h
    rw [h1, h2, h3]
    exact ⟨rfl, rfl, h, fun t ht => ⟨ht, rfl⟩, by omega⟩
  · obtain ⟨h1, h2, h3⟩ := put_new hs h hf
    rw [h1, h2, h3]
    refine ⟨rfl, ?_, by simp, fun t ht => ⟨by simp [ht], ?_⟩, by simp⟩
    · rw [List.idxOf_append, if_neg h]; simp
    · rw [List.idxOf_append, if_pos ht]
theorem idx_at : ∀ {xs : List (List UInt8)} {a : List UInt8}, a ∈ xs → xs[xs.idxOf a]? = some a
  | [], a, h => absurd h (by simp)
  | x :: xs, a, h => by
    by_cases e : x = a
    · subst e; simp
    · have hm : a ∈ xs := by
        rcases List.mem_cons.1 h with h | h
        · exact absurd h.symm e
        · exact h
      have hb : (x == a) = false := by simpa using e
      rw [List.idxOf_cons, hb]
      simpa using idx_at hm
theorem idx_inj {xs : List (List UInt8)} {a b : List UInt8} (ha : a ∈ xs) (hb : b ∈ xs) (h : xs.idxOf a = xs.idxOf b) : a = b := by
  have h1 : xs[xs.idxOf a]? = some a := idx_at ha
  have h2 : xs[xs.idxOf b]? = some b := idx_at hb
  rw [h, h2] at h1
  exact (Option.some.inj h1).symm
end Pl
end Go.Proofs.YtmlndamkcipebaaGreatDoor
namespace Go.Proofs.YtmlndamkcipebaaGreatDoor
open Go Go.RowKit Lmd
namespace Pl
open Rul Day Cand Tp Pk

/-- what the laws of pools stand on -/
structure LEnv (w : World) (e : Nat → Addr) (m : Int) : Prop where
  el : EL w e
  lib : ELib w
  tab : Lib.TabIs Tryz.prog w "internal/strconv.uint64pow10" .u64 Lib.pow10Tab
  ml : w.cell? ⟨13, 0, none⟩ = some (.int .i64 m)
theorem LEnv.below {w w' : World} {e : Nat → Addr} {m : Int} (h : LEnv w e m) (hb : Below w.heap.size w w') : LEnv w' e m :=
  ⟨h.el.below hb, h.lib.below hb, Frame.tab_below (g := 12) (by kernel_rfl) hb h.tab, cell_later hb h.ml⟩
theorem far_pool {w W W' : World} {base p m : Nat} {v : Value} {xs : List (List UInt8)} (h : Is W base p v m xs) (hf : Far (fun k => k = p ∨ k = m ∨ some k = v.ownBlock) W W') (hb : Below w.heap.size w W) (hbase : w.heap.size ≤ base) : Below w.heap.size w W' :=
  hb.trans (hf.below (fun k hk => by
    rcases hk with rfl | rfl | hk
    · exact Nat.le_trans hbase h.ge.1
    · exact Nat.le_trans hbase h.ge.2
    · exact Nat.le_trans hbase (own_ge h.own hk.symm)) hb.size)
set_option maxRecDepth 100000 in
set_option maxHeartbeats 800000 in
theorem pooled_any (e : Nat → Addr) (w : World) (h : EL w e) :
    Calls Tryz.prog 6 #[] w fun e' w' => e' = .returned (.bool true) ∧ Below w.heap.size w w' := by
  have hn := new_any w
  have HN := Lib.hid hn
  have HE := Lib.hid h
  clear hn h
  go_enter Tryz.func6, Tryz.ntmps6
  go_wp2_with fail
  (with_reducible refine HN.out.mono ?_)
  rintro e1 w1 ⟨p, v, m, rfl, his, hb1⟩
  have hp := put_any w1 w.heap.size p m v [] [120] e his (HE.out.below hb1).q (by decide)
  have q1 : putC [] [120] = 0 ∧ putN [] [120] = 0 ∧ putL [] [120] = [[120]] := by decide
  unfold PutPost at hp
  rw [q1.1, q1.2.1, q1.2.2] at hp
  have HP := Lib.hid hp
  have HIS := Lib.hid his
  have HB := Lib.hid hb1
  clear hp his hb1 q1 HN
  go_wp2_with fail
  (with_reducible refine HP.out.mono ?_)
  rintro e2 w2 ⟨v2, rfl, hi2, hf2, _⟩
  have hb2 := far_pool HIS.out hf2 HB.out (Nat.le_refl _)
  have hp2 := put_any w2 w.heap.size p m v2 [[120]] [] e hi2 (HE.out.below hb2).q (by decide)
  have q2 : putC [[120]] [] = 0 ∧ putN [[120]] [] = 1 ∧ putL [[120]] [] = [[120], []] := by decide
  unfold PutPost at hp2
  rw [q2.1, q2.2.1, q2.2.2] at hp2
  have HP2 := Lib.hid hp2
  have HI2 := Lib.hid hi2
  have HB2 := Lib.hid hb2
  clear hp2 hi2 hb2 hf2 q2 HP HIS HB
  simp only [errV]
  go_wp2_with fail
  (with_reducible refine HP2.out.mono ?_)
  rintro e3 w3 ⟨v3, rfl, hi3, hf3, _⟩
  have hb3 := far_pool HI2.out hf3 HB2.out (Nat.le_refl _)
  have hp3 := put_any w3 w.heap.size p m v3 [[120], []] [120] e hi3 (HE.out.below hb3).q (by decide)
  have q3 : putC [[120], []] [120] = 0 ∧ putN [[120], []] [120] = 0 ∧ putL [[120], []] [120] = [[120], []] := by decide
  unfold PutPost at hp3
  rw [q3.1, q3.2.1, q3.2.2] at hp3
  have HP3 := Lib.hid hp3
  have HI3 := Lib.hid hi3
  have HB3 := Lib.hid hb3
  clear hp3 hi3 hb3 hf3 q3 HP2 HI2 HB2
  simp only [errV]
  go_wp2_with fail
  (with_reducible refine HP3.out.mono ?_)
  rintro e4 w4 ⟨v4, rfl, hi4, hf4, _⟩
  have hb4 := far_pool HI3.out hf4 HB3.out (Nat.le_refl _)
  have hl := len_any w4 w.heap.size p m v4 _ hi4
  have HL := Lib.hid hl
  have HB4 := Lib.hid hb4
  clear hi4 hb4 hf4 hl HP3 HI3 HB3
  simp only [errV]
  go_wp2_with fail
  (with_reducible refine HL.out.mono ?_)
  rintro e5 w5 ⟨rfl, rfl⟩
  go_wp2
  go_ret
  exact ⟨rfl, HB4.out⟩
end Pl
end Go.Proofs.YtmlndamkcipebaaGreatDoor
namespace Go.Proofs.YtmlndamkcipebaaGreatDoor
open Go Go.RowKit Lmd
namespace Pl
open Rul Day Cand Tp Pk
/-- the numbers of texts in a pool -/
def nums (xs L : List (List UInt8)) : List Value := L.map fun t => .int .i64 (xs.idxOf t : Nat)
theorem own_far2 {w w' : World} {base n : Nat} {e : TypeId} {v : Value} {xs : List Value} {S : Nat → Prop} (h : w.ownsRow base e 1 v n xs) (hf : Far S w w') (hn : ∀ g, v.ownBlock = some g → w.heap[g]? ≠ none → ¬ S g) : w'.ownsRow base e 1 v n xs := by
  refine ⟨h.1, ?_⟩
  rcases h.2 with hx | ⟨g, cap, cur, rfl, hb, hgg, rest⟩
  · exact .inl hx
  · exact .inr ⟨g, cap, cur, rfl, hb, by rw [hf.block g (Array.getElem?_eq_some_iff.1 hgg).1 (hn g rfl (by rw [hgg]; simp))]; exact hgg, rest⟩
/-- the row of numbers lies apart from a pool -/
theorem ints_apart {w : World} {base base2 p m n : Nat} {v nv : Value} {xs : List (List UInt8)} {ns : List Value} (h : w.ownsRow base 3 1 nv n ns) (hp : Is w base2 p v m xs) : ∀ g, nv.ownBlock = some g → ¬ (g = p ∨ g = m ∨ some g = v.ownBlock) := by
  intro g hg
  rcases h.2 with ⟨rfl, _⟩ | ⟨g', cap, cur, rfl, _, hr, _⟩
  · simp [Value.ownBlock] at hg
  · obtain rfl : g' = g := by simpa [Value.ownBlock] using hg
    rintro (rfl | rfl | hv)
    · have hr2 := hp.row
      rw [hr] at hr2
      have ht : 3 = 70 := by injection hr2 with e1; injection e1
      revert ht; decide
    · obtain ⟨D, ⟨es, clock, hb, _⟩, _⟩ := hp.map
      rw [hr] at hb
      cases hb
    · rcases hp.own.2 with ⟨h1, _⟩ | ⟨g2, cap2, cur2, h1, _, hr2, _⟩
      · rw [h1] at hv; simp [Value.ownBlock] at hv
      · rw [h1] at hv
        obtain rfl : g' = g2 := by simpa [Value.ownBlock] using hv
        rw [hr] at hr2
        have ht : 3 = 9 := by injection hr2 with e1; injection e1
        revert ht; decide
theorem Is.kept {w w' : World} {base p m : Nat} {v : Value} {xs : List (List UInt8)} {row : Option Nat} (h : Is w base p v m xs) (hg : w.grownBy w' row) (hn : ∀ g, row = some g → ¬ (g = p ∨ g = m ∨ some g = v.ownBlock)) : Is w' base p v m xs := by
  obtain ⟨D, h1, h2⟩ := h.map
  refine ⟨?_, h.own.kept hg ?_, ⟨D, h1.kept hg ?_, h2⟩, h.ge, h.few, h.small, h.once⟩
  · rw [hg.block p (Array.getElem?_eq_some_iff.1 h.row).1 (fun e => hn p e.symm (.inl rfl))]; exact h.row
  · cases hv : v.ownBlock with
    | none => exact .inl rfl
    | some g => exact .inr (fun e => hn g e.symm (.inr (.inr hv.symm)))
  · intro e; exact hn m e.symm (.inr (.inl rfl))
theorem int_info : (Tryz.prog.info? 3).map (fun i => (i.zero, i.size, i.bytes)) = some (some (.int .i64 0), 1, 8) := by kernel_rfl
end Pl
end Go.Proofs.YtmlndamkcipebaaGreatDoor
