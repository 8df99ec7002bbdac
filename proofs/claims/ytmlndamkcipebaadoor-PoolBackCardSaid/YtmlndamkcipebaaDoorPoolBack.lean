/- The walk of the law PoolBack. -/
import Derived.Test.YtmlndamkcipebaaDoorPooled
namespace Go.Proofs.YtmlndamkcipebaaDoor
open Go Go.RowKit Lmd
namespace Pl
open Rul Day Cand Tp Pk

/-- the numbers of texts in a pool -/
def nums (xs L : List (List UInt8)) : List Value := L.map fun t => .int .i64 (xs.idxOf t : Nat)
/-- the state of the loop of PoolBack -/
structure BkAt (L : List (List UInt8)) (w : World) (p m k : Nat) (v : Value) (xs : List (List UInt8)) (nv : Value) (W : World) : Prop where
  pl : Is W w.heap.size p v m xs
  ns : W.ownsRow w.heap.size 3 1 nv k (nums xs (L.take k))
  low : Below w.heap.size w W
  mem : ∀ t ∈ L.take k, t ∈ xs
  few : xs.length ≤ k
  le : k ≤ L.length
theorem own_far2 {w w' : World} {base n : Nat} {e : TypeId} {v : Value} {xs : List Value} {S : Nat → Prop} (h : w.ownsRow base e 1 v n xs) (hf : Far S w w') (hn : ∀ g, v.ownBlock = some g → w.heap[g]? ≠ none → ¬ S g) : w'.ownsRow base e 1 v n xs := by
  refine ⟨h.1, ?_⟩
  rcases h.2 with hx | ⟨g, cap, cur, rfl, hb, hgg, rest⟩
  · exact .inl hx
  · exact .inr ⟨g, cap, cur, rfl, hb, by rw [hf.block g (Array.getElem?_eq_some_iff.1 hgg).1 (hn g rfl (by rw [hgg]; simp))]; exact hgg, rest⟩
/-- the row of numbers lies apart from a pool -/
theorem ints_apart {w : World} {base base2 p m n : Nat} {v nv : Value} {xs : List (List UInt8)} {ns : List Value} (h : w.ownsRow base 3 1 nv n ns) (hp : Is w base2 p v m xs) : ∀ g, nv.ownBlock = some g → ¬ (g = p ∨ g = m ∨ some g = v.ownBlock) := by
  intro g hg
  rcases h.2 with ⟨rfl, _⟩ | ⟨g', cap, cur, rfl, _, hr, _⟩
  · simp [Value.ownBlock] at hg
  · obtain rfl : g' = g := by simpa [Value.ownBlock] using hg
    rintro (rfl | rfl | hv)
    · have hr2 := hp.row
      rw [hr] at hr2
      have ht : 3 = 103 := by injection hr2 with e1; injection e1
      revert ht; decide
    · obtain ⟨D, ⟨es, clock, hb, _⟩, _⟩ := hp.map
      rw [hr] at hb
      cases hb
    · rcases hp.own.2 with ⟨h1, _⟩ | ⟨g2, cap2, cur2, h1, _, hr2, _⟩
      · rw [h1] at hv; simp [Value.ownBlock] at hv
      · rw [h1] at hv
        obtain rfl : g' = g2 := by simpa [Value.ownBlock] using hv
        rw [hr] at hr2
        have ht : 3 = 9 := by injection hr2 with e1; injection e1
        revert ht; decide
theorem Is.kept {w w' : World} {base p m : Nat} {v : Value} {xs : List (List UInt8)} {row : Option Nat} (h : Is w base p v m xs) (hg : w.grownBy w' row) (hn : ∀ g, row = some g → ¬ (g = p ∨ g = m ∨ some g = v.ownBlock)) : Is w' base p v m xs := by
  obtain ⟨D, h1, h2⟩ := h.map
  refine ⟨?_, h.own.kept hg ?_, ⟨D, h1.kept hg ?_, h2⟩, h.ge, h.few, h.small, h.once⟩
  · rw [hg.block p (Array.getElem?_eq_some_iff.1 h.row).1 (fun e => hn p e.symm (.inl rfl))]; exact h.row
  · cases hv : v.ownBlock with
    | none => exact .inl rfl
    | some g => exact .inr (fun e => hn g e.symm (.inr (.inr hv.symm)))
  · intro e; exact hn m e.symm (.inr (.inl rfl))
theorem int_info : (Tryd.prog.info? 3).map (fun i => (i.zero, i.size, i.bytes)) = some (some (.int .i64 0), 1, 8) := by kernel_rfl
set_option maxRecDepth 100000 in
set_option maxHeartbeats 1000000 in
theorem poolBack_any (X : List ByteArray) (lv : Value) (e : Nat → Addr) (m0 : Int) (w : World) (h : LEnv w e m0) (hr : Tx.Rd w lv X) (hxs : ∀ x ∈ X, x.size ≤ 9223372036854775807) (hxl : X.length ≤ 9223372036854775807) :
    Calls Tryd.prog 6 #[lv] w fun e' w' => e' = .returned (.bool true) ∧ Below w.heap.size w w' := by
  obtain ⟨i0, hi0, hz0, hz1, hz2⟩ := info_parts int_info
  obtain ⟨a0, c0, rfl⟩ := hr.shape
  have ht := pooled_any e w h.el
  have HT := Lib.hid ht
  have HE := Lib.hid h
  have HR := Lib.hid hr
  have HXS := Lib.hid hxs
  obtain ⟨L, hL⟩ : ∃ L, X.map (·.data.toList) = L := ⟨_, rfl⟩
  have hLl : L.length = X.length := by rw [← hL]; simp
  have HL := Lib.hid hL
  have HLL := Lib.hid hLl
  clear ht h hr hxs hL hLl
  go_enter Tryd.func6, Tryd.ntmps6
  go_wp2_with fail
  (with_reducible refine HT.out.mono ?_)
  rintro e1 w1 ⟨rfl, hb1⟩
  have HB1 := Lib.hid hb1
  clear hb1 HT
  by_cases hl : 60 < X.length
  · have hl2 : (60 : Int) < (X.length : Int) := by omega
    go_wp2
    go_ret
    exact ⟨rfl, HB1.out⟩
  have hl2 : ¬ (60 : Int) < (X.length : Int) := by omega
  have hn := new_any w1
  have HN := Lib.hid hn
  clear hn
  go_wp2_with fail
  (with_reducible refine HN.out.mono ?_)
  rintro e2 w2 ⟨p, v, m, rfl, his, hb2⟩
  have his2 : Is w2 w.heap.size p v m [] := ⟨his.row, ⟨his.own.1, his.own.2.imp id (by
    rintro ⟨g, cap, cur, h1, h2, h3⟩
    exact ⟨g, cap, cur, h1, Nat.le_trans HB1.out.size h2, h3⟩)⟩, his.map, ⟨Nat.le_trans HB1.out.size his.ge.1, Nat.le_trans HB1.out.size his.ge.2⟩, his.few, his.small, his.once⟩
  have hb2' := HB1.out.trans (hb2.mono HB1.out.size)
  have HIS := Lib.hid his2
  have HB2 := Lib.hid hb2'
  clear his his2 hb2 hb2' HN
  go_wp2_with fail
  go_loopw [5, 6] (fun nv iv wr => ∃ (k : Nat) (v' : Value) (xs : List (List UInt8)), iv = .int .i64 k ∧ (∃ a c, nv = .slice a k c) ∧ BkAt L w p m k v' xs nv wr) (fun _ iv _ => L.length - (intOf iv).toNat)
  case atStart => exact ⟨0, v, [], rfl, ⟨none, 0, rfl⟩, HIS.out, ⟨rfl, .inl ⟨rfl, rfl⟩⟩, HB2.out, by simp, Nat.zero_le _, Nat.zero_le _⟩
  case round =>
    obtain ⟨k, v', xs, rfl, ⟨a4, c4, rfl⟩, hat⟩ := hrel
    have hkl := hat.le
    have hll := HLL.out
    by_cases hlt : k < X.length
    · obtain ⟨b0, o0, c1, e1, hc⟩ := HR.out.at (by intro h; rw [h] at hlt; exact absurd hlt (Nat.not_lt_zero _))
      obtain ⟨rfl, rfl⟩ : a0 = some ⟨b0, o0, none⟩ ∧ c0 = c1 := by cases e1; exact ⟨rfl, rfl⟩
      obtain ⟨s, hs⟩ : ∃ s, L[k]? = some s := ⟨_, List.getElem?_eq_getElem (by omega)⟩
      have hX : ∀ (j : Nat) (t : List UInt8), L[j]? = some t → X[j]? = some (mk t) := by
        intro j t hj
        rw [← HL.out, List.getElem?_map] at hj
        cases hx : X[j]? with
        | none => rw [hx] at hj; cases hj
        | some x => rw [hx] at hj; cases hj; rw [← mk_self x]
      have hcl : ∀ (j : Nat) (t : List UInt8) (W : World), Below w.heap.size w W → L[j]? = some t → W.cell? ⟨b0, o0 + j, none⟩ = some (.string (mk t)) := fun j t W hb hj => cell_later hb (hc j _ (hX j t hj))
      have k1 := hcl k s wr hat.low hs
      have hi1 : (k : Int) < (X.length : Int) := by omega
      have hsz : s.length ≤ 9223372036854775807 := HXS.out _ (List.mem_of_getElem? (hX k s hs))
      have HAT := Lib.hid hat
      have HCL := Lib.hid hcl
      have HSK := Lib.hid hs
      clear e1 hc hat hs hX hcl
      by_cases h2 : 300 < s.length
      · have h3 : (300 : Int) < (s.length : Int) := by omega
        go_wp2
        go_ret
        exact ⟨rfl, HAT.out.low⟩
      · have h3 : ¬ (300 : Int) < (s.length : Int) := by omega
        have hfew := HAT.out.few
        have hpt := put_any wr w.heap.size p m v' xs s e HAT.out.pl (HE.out.below HAT.out.low).el hsz
        obtain ⟨n1, n2, n3, n4, n5⟩ := put_any_num (xs := xs) (s := s) (by omega) (by omega)
        unfold PutPost at hpt
        rw [n1, n2] at hpt
        obtain ⟨ys, hys⟩ : ∃ ys, putL xs s = ys := ⟨_, rfl⟩
        rw [hys] at hpt n3 n4 n5
        have HPT := Lib.hid hpt
        have HN3 := Lib.hid n3
        have HN4 := Lib.hid n4
        have HN5 := Lib.hid n5
        clear hpt n1 n2 n3 n4 n5 hys
        go_wp2_with fail
        (with_reducible refine HPT.out.mono ?_)
        rintro e3 w3 ⟨v3, rfl, hi3, hf3, hv3⟩
        have hb3 := far_pool HAT.out.pl hf3 HAT.out.low (Nat.le_refl _)
        simp only [errV]
        have hln := len_any w3 w.heap.size p m v3 ys hi3
        have HLN := Lib.hid hln
        have HI3 := Lib.hid hi3
        have HF3 := Lib.hid hf3
        have HB3 := Lib.hid hb3
        clear hln hi3 hf3 hv3 hb3 HPT
        go_wp2_with fail
        (with_reducible refine HLN.out.mono ?_)
        rintro e4 w4 ⟨rfl, rfl⟩
        obtain ⟨N, hN⟩ : ∃ N, ys.idxOf s = N := ⟨_, rfl⟩
        have hNl : N < ys.length := by rw [← hN]; exact List.idxOf_lt_length_of_mem HN3.out
        rw [hN]
        have hN0 : ¬ (N : Int) < 0 := by omega
        have hN1 : ¬ (ys.length : Int) ≤ (N : Int) := by omega
        have hN2 : (N : Int) < (ys.length : Int) := by omega
        have HN := Lib.hid hN
        have hns : w4.ownsRow w.heap.size 3 1 (.slice a4 k c4) k (nums xs (L.take k)) := by
          exact own_far2 HAT.out.ns HF3.out (fun g hg _ => ints_apart HAT.out.ns HAT.out.pl g hg)
        have HNS := Lib.hid hns
        have hbase : w.heap.size ≤ w4.heap.size := HB3.out.size
        clear hN hNl hns
        go_wp2_with (first
          | (at_builtin
             refine wpList_append_own_at _ rfl (.tmp 58) (.tmp 60) _ rfl w.heap.size 3 i0 _ 1 8 Tryd.underlying44 hi0 hz0 hz1 hz2 rfl (by omega) (.slice a4 k c4) k (nums xs (L.take k)) rfl
               (HNS.out.alloc _) ⟨w4.heap.size, 0, none⟩ 1 1 [.int .i64 (N : Nat)] rfl rfl (cell_one_new _ _ _) (fun u hu => by simp at hu; subst hu; rfl) (by simp only [maxLen]; omega) (by omega) (by simp; omega) ?_
             intro v1 wb hown' hg2 hnil hloc
             obtain ⟨a1, c1, e1⟩ := ownsRow_slice hown'
             subst e1
             have HOB := Lib.hid hown'
             have HG2 := Lib.hid hg2
             clear hown' hg2 hnil hloc))
        have hbn : Below w.heap.size w (w4.alloc (.cells #[.int .i64 (N : Nat)] 3)) := HB3.out.alloc hbase _
        have hbb : Below w.heap.size w wb := hbn.grown HG2.out (by simp; omega) (fun j ej => own_ge HNS.out ej)
        have hpb : Is wb w.heap.size p v3 m ys := (HI3.out.below ((Below.refl _ w4).alloc (Nat.le_refl _) _)).kept HG2.out (fun g hg => ints_apart HNS.out HI3.out g hg)
        have hnum : nums xs (L.take k) ++ [.int .i64 (N : Nat)] = nums ys (L.take (k + 1)) := by
          obtain ⟨h1, h2⟩ := List.getElem?_eq_some_iff.1 HSK.out
          rw [List.take_succ_eq_append_getElem h1, h2]
          unfold nums
          rw [List.map_append, List.map_cons, List.map_nil, HN.out]
          congr 1
          apply List.map_congr_left
          intro t ht
          rw [(HN4.out t (HAT.out.mem t ht)).2]
        have hob := HOB.out
        rw [hnum] at hob
        have hmem : ∀ t ∈ L.take (k + 1), t ∈ ys := by
          intro t ht
          obtain ⟨h1, h2⟩ := List.getElem?_eq_some_iff.1 HSK.out
          rw [List.take_succ_eq_append_getElem h1, h2, List.mem_append] at ht
          rcases ht with ht | ht
          · exact (HN4.out t (HAT.out.mem t ht)).1
          · rw [List.mem_singleton] at ht; subst ht; exact HN3.out
        obtain ⟨g, rfl, hcn⟩ : ∃ g, a1 = some ⟨g, 0, none⟩ ∧ ∀ (j : Nat) (t : List UInt8), j < k → L[j]? = some t → wb.cell? ⟨g, j, none⟩ = some (.int .i64 (ys.idxOf t : Nat)) := by
          rcases hob.2 with ⟨_, h0⟩ | ⟨g, cap, cur, h1, _⟩
          · omega
          · have h2 := hob.cells (g := g) (by rw [h1]; rfl)
            refine ⟨g, by cases h1; rfl, fun j t hj ht => ?_⟩
            have h3 := h2 j (.int .i64 (ys.idxOf t : Nat)) (by
              unfold nums
              rw [List.getElem?_map, List.getElem?_take_of_lt (by omega), ht]; rfl)
            rwa [Addr.add_lit, Nat.zero_add] at h3
        have HBB := Lib.hid hbb
        have HPB := Lib.hid hpb
        have HOB2 := Lib.hid hob
        have HMEM := Lib.hid hmem
        have HCN := Lib.hid hcn
        clear hbn hbb hpb hnum hob hmem hcn k1
        go_loopw [9] (fun jv wr => ∃ (j q : Nat), jv = .int .i64 j ∧ j ≤ k ∧ wr = wb.drewN q) (fun jv _ => k - (intOf jv).toNat)
        case atStart => exact ⟨0, 0, rfl, Nat.zero_le _, rfl⟩
        case round =>
          obtain ⟨j, q, rfl, hjk, rfl⟩ := hrel
          by_cases hj : j < k
          · obtain ⟨t, ht⟩ : ∃ t, L[j]? = some t := ⟨_, List.getElem?_eq_getElem (by omega)⟩
            have hji : (j : Int) < (k : Int) := by omega
            have hjX : j < X.length := by omega
            have hjX2 : (j : Int) < (X.length : Int) := by omega
            have hjk1 : (j : Int) < ((k + 1 : Nat) : Int) := by omega
            have hjk2 : j < k + 1 := by omega
            have hjk3 : (j : Int) < (k : Int) + 1 := by omega
            have hj0 : ¬ (j : Int) < 0 := by omega
            have q1 := HCN.out j t hj ht
            have q2 := HCL.out j t wb HBB.out ht
            have q3 := HCL.out k s wb HBB.out HSK.out
            have htm : t ∈ ys := HMEM.out t (List.mem_of_getElem? (by rw [List.getElem?_take_of_lt (by omega)]; exact ht))
            by_cases hts : t = s
            · subst hts
              rw [HN.out] at q1
              clear ht htm
              go_wp2_with fail
              go_quiet (fail)
              go_wp2_with fail
              go_roundw
              case rel => exact ⟨j + 1, _, by go_num, by omega, rfl⟩
              case measure => simp [intOf]; omega
            · have hMN : ys.idxOf t ≠ N := by
                intro h
                exact hts (idx_inj htm HN3.out (by rw [HN.out]; exact h))
              obtain ⟨M, hM⟩ : ∃ M, ys.idxOf t = M := ⟨_, rfl⟩
              rw [hM] at hMN q1
              have hq1 : ((M : Int) == (N : Int)) = false := by rw [beq_eq_false_iff_ne]; omega
              have hq2 : ((mk t).toList == (mk s).toList) = false := by rw [toListMk, toListMk, beq_eq_false_iff_ne]; exact hts
              have hq3 : (t == s) = false := by simpa using hts
              clear ht htm hM
              go_wp2_with fail
              go_quiet (fail)
              go_wp2_with fail
              go_roundw
              case rel => exact ⟨j + 1, _, by go_num, by omega, rfl⟩
              case measure => simp [intOf]; omega
          · obtain rfl : j = k := by omega
            have hjj : ¬ (j : Int) < (j : Int) := by omega
            have hlw : Below w.heap.size w (wb.drewN q) := HBB.out.trans ((below_draw (Below.refl _ wb) q).mono HBB.out.size)
            have hg := get_any (wb.drewN q) w.heap.size p m v3 ys N s (HPB.out.below (below_draw (Below.refl _ wb) q)) (by rw [← HN.out]; exact idx_at HN3.out)
            have HGET := Lib.hid hg
            have HLW := Lib.hid hlw
            clear hg hlw
            go_wp2_with fail
            (with_reducible refine HGET.out.mono ?_)
            rintro e6 w6 ⟨rfl, hb6⟩
            have hlw6 := HLW.out.trans (hb6.mono HLW.out.size)
            have q3 := HCL.out j s w6 hlw6 HSK.out
            have hat6 : BkAt L w p m (j + 1) v3 ys (.slice (some ⟨g, 0, none⟩) (j + 1) c1) w6 := by
              refine ⟨(HPB.out.below (below_draw (Below.refl _ wb) q)).below hb6, own_later (own_later HOB2.out (below_draw (Below.refl _ wb) q)) hb6, hlw6, HMEM.out, ?_, by omega⟩
              have := HN5.out
              omega
            have HAT6 := Lib.hid hat6
            clear hb6 hlw6 hat6 HGET
            go_wp2_with fail
            go_roundw
            case rel => exact ⟨j + 1, v3, ys, by go_num, ⟨_, _, rfl⟩, HAT6.out⟩
            case measure => simp [intOf]; omega
    · obtain rfl : k = X.length := by omega
      have hi1 : ¬ (X.length : Int) < (X.length : Int) := by omega
      have hfew := hat.few
      have hel := entsL_le xs hat.pl.small
      have htx := text_any wr w.heap.size p m v' xs hat.pl (HE.out.below hat.low).tab
      have hrf : readF [] (entsL xs) = (0, xs) := by
        have h := readF_ents xs [] hat.pl.once hat.pl.few hat.pl.small
        exact h
      have HTX := Lib.hid htx
      have HRF := Lib.hid hrf
      have HAT := Lib.hid hat
      have hel2 : (entsL xs).length ≤ 1048576 := by omega
      clear htx hrf hat hel
      go_wp2_with fail
      (with_reducible refine HTX.out.mono ?_)
      rintro e3 w3 ⟨rfl, hb3⟩
      have hlw3 := HAT.out.low.trans (hb3.mono HAT.out.low.size)
      have hen3 := HE.out.below hlw3
      have hrd := read_any (entsL xs) e m0 w3 (by omega) hen3.el hen3.lib hen3.tab hen3.ml
      unfold ReadPost at hrd
      have hel3 : ¬ 1048576 < (entsL xs).length := by omega
      simp only [if_neg hel3, HRF.out] at hrd
      simp only [if_true] at hrd
      have hpl3 := HAT.out.pl.below hb3
      have HRD := Lib.hid hrd
      have HLW3 := Lib.hid hlw3
      have HPL3 := Lib.hid hpl3
      clear hrd hlw3 hpl3 hb3 hen3 HTX
      go_wp2_with fail
      (with_reducible refine HRD.out.mono ?_)
      rintro e4 w4 ⟨p2, v2, m2, rfl, hi4, hb4⟩
      have hlw4 := HLW3.out.trans (hb4.mono HLW3.out.size)
      have hpl4 := HPL3.out.below hb4
      have HI4 := Lib.hid hi4
      have HLW4 := Lib.hid hlw4
      have HPL4 := Lib.hid hpl4
      clear hi4 hlw4 hpl4 hb4 HRD
      have ht4 := text_any w4 w3.heap.size p2 m2 v2 xs HI4.out (HE.out.below HLW4.out).tab
      have HT4 := Lib.hid ht4
      clear ht4
      go_wp2_with fail
      (with_reducible refine HT4.out.mono ?_)
      rintro e5 w5 ⟨rfl, hb5⟩
      have hlw5 := HLW4.out.trans (hb5.mono HLW4.out.size)
      have hpl5 := HPL4.out.below hb5
      have hi5 := HI4.out.below hb5
      have ht5 := text_any w5 w.heap.size p m v' xs hpl5 (HE.out.below hlw5).tab
      have HT5 := Lib.hid ht5
      have HLW5 := Lib.hid hlw5
      have HPL5 := Lib.hid hpl5
      have HI5 := Lib.hid hi5
      clear ht5 hlw5 hpl5 hi5 hb5 HT4
      go_wp2_with fail
      (with_reducible refine HT5.out.mono ?_)
      rintro e6 w6 ⟨rfl, hb6⟩
      have hlw6 := HLW5.out.trans (hb6.mono HLW5.out.size)
      have hl6 := len_any w6 w3.heap.size p2 m2 v2 xs (HI5.out.below hb6)
      have hk6 := len_any w6 w.heap.size p m v' xs (HPL5.out.below hb6)
      have HL6 := Lib.hid hl6
      have HK6 := Lib.hid hk6
      have HLW6 := Lib.hid hlw6
      clear hl6 hk6 hlw6 hb6 HT5
      go_wp2_with fail
      (with_reducible refine HL6.out.mono ?_)
      rintro e7 w7 ⟨rfl, rfl⟩
      go_wp2_with fail
      (with_reducible refine HK6.out.mono ?_)
      rintro e8 w8 ⟨rfl, rfl⟩
      go_wp2_with fail
      go_ret
      exact ⟨rfl, HLW6.out⟩
end Pl
end Go.Proofs.YtmlndamkcipebaaDoor
