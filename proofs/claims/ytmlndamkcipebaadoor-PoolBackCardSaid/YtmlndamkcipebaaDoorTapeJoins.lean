/- The walk of the law TapeJoins. -/
import Derived.Test.YtmlndamkcipebaaDoorTaped
namespace Go.Proofs.YtmlndamkcipebaaDoor
open Go Go.RowKit Lmd
namespace Tp
open Rul Day Cand

/-- the records of the first k texts -/
def pre (xs : List ByteArray) (k : Nat) : List UInt8 := recsL ((xs.take k).map (·.data.toList))
theorem take_succ {xs : List ByteArray} {k : Nat} {x : ByteArray} (h : xs[k]? = some x) : xs.take (k + 1) = xs.take k ++ [x] := by
  obtain ⟨hk, rfl⟩ := List.getElem?_eq_some_iff.1 h
  exact List.take_succ_eq_append_getElem hk
theorem pre_succ {xs : List ByteArray} {k : Nat} {x : ByteArray} (h : xs[k]? = some x) : pre xs (k + 1) = pre xs k ++ recL x.data.toList := by
  unfold pre
  rw [take_succ h, List.map_append, List.map_cons, List.map_nil, recsL_snoc]
theorem recsL_le : ∀ (l : List (List UInt8)), (∀ x ∈ l, x.length ≤ 200) → (recsL l).length ≤ 208 * l.length
  | [], _ => by simp [recsL]
  | x :: l, h => by
    have h1 := recL_le x (by have := h x (by simp); omega)
    have h2 := recsL_le l (fun y hy => h y (by simp [hy]))
    have h3 := h x (by simp)
    have e : (recsL (x :: l)).length = (recL x).length + (recsL l).length := by simp [recsL]
    rw [e, List.length_cons]; omega
/-- the state of the loop of TapeJoins -/
structure JAt (xs : List ByteArray) (w : World) (p k : Nat) (v : Value) (W : World) : Prop where
  dk : Dk W w.heap.size p v (pre xs k) false (-1)
  low : Below w.heap.size w W
  sm : ∀ x ∈ xs.take k, x.size ≤ 200
  le : k ≤ xs.length
theorem JAt.len {xs : List ByteArray} {w : World} {p k : Nat} {v : Value} {W : World} (h : JAt xs w p k v W) : (pre xs k).length ≤ 208 * k := by
  have h1 := recsL_le ((xs.take k).map (·.data.toList)) (by
    intro y hy
    rw [List.mem_map] at hy
    obtain ⟨x, hx, rfl⟩ := hy
    have := h.sm x hx
    simpa using this)
  have h2 : ((xs.take k).map (·.data.toList)).length = k := by
    have := h.le
    simp; omega
  rw [h2] at h1; exact h1
theorem ap_small {l s : List UInt8} (hs : s.length ≤ 200) (hl : l.length ≤ 20000) : apBad l s = 0 := by
  have := recL_le s (by omega)
  unfold apBad
  rw [if_neg (by omega), if_neg (by omega)]
theorem ap_plain {l s : List UInt8} (h : apBad l s = 0) : apC false (-1) l s = 0 ∧ apL false (-1) l s = l ++ recL s ∧ apO false (-1) l s = false ∧ apN false (-1) l s = -1 := by
  unfold apC apL apO apN wrC wrL wrO wrN
  rw [if_pos h, if_pos h, if_pos h, if_pos h]
  simp

theorem below_none {w w' : World} (hg : w.grownBy w' (Value.ownBlock (.slice none 0 0))) : Below w.heap.size w w' := ⟨hg.os, hg.tape, hg.output, hg.size, fun k hk => hg.block k hk (by simp [Value.ownBlock])⟩
theorem own_ge {w : World} {base : Nat} {e : TypeId} {v : Value} {n : Nat} {xs : List Value} (h : w.ownsRow base e 1 v n xs) {j : Nat} (ej : v.ownBlock = some j) : base ≤ j := by
  rcases h.2 with ⟨rfl, _⟩ | ⟨g, cap, cur, rfl, h2, _⟩
  · simp [Value.ownBlock] at ej
  · obtain rfl : g = j := by simpa [Value.ownBlock] using ej
    exact h2
theorem readT_count : ∀ (k : Nat) (l : List UInt8), (readT k l).1.length ≤ (readT k l).2
  | 0, _ => Nat.le_refl _
  | k + 1, l => by
    simp only [readT]
    split
    · have h := readT_count k (l.drop (recL (oneS l)).length)
      have h2 := recL_pos (oneS l)
      simp only [List.length_cons]; omega
    · exact Nat.le_refl _
set_option maxRecDepth 100000 in
set_option maxHeartbeats 1500000 in
theorem tapeJoins_any (xs : List ByteArray) (v : Value) (s : ByteArray) (e : Nat → Addr) (m : Int) (w : World) (h : TEnv w e m) (hr : Tx.Rd w v xs) (hxs : ∀ x ∈ xs, x.size ≤ 9223372036854775807) (hxl : xs.length ≤ 9223372036854775807) (hsz : s.size ≤ 9223372036854775807) :
    Calls Tryd.prog 3 #[v, .string s] w fun e' w' => e' = .returned (.bool true) ∧ Below w.heap.size w w' := by
  obtain ⟨a0, c0, rfl⟩ := hr.shape
  have ht := taped_any e m w h
  have HT := Lib.hid ht
  have HE := Lib.hid h
  have HR := Lib.hid hr
  have HXS := Lib.hid hxs
  clear ht h hr hxs
  go_enter Tryd.func3, Tryd.ntmps3
  go_wp2_with fail
  (with_reducible refine HT.out.mono ?_)
  rintro e1 w1 ⟨rfl, hb1⟩
  have HB1 := Lib.hid hb1
  clear hb1 HT
  by_cases hl : 20 < xs.length
  · have hl2 : (20 : Int) < (xs.length : Int) := by omega
    go_wp2
    go_ret
    exact ⟨rfl, HB1.out⟩
  by_cases hs5 : 500 < s.size
  · have hl2 : ¬ (20 : Int) < (xs.length : Int) := by omega
    have hl3 : (500 : Int) < (s.size : Int) := by omega
    go_wp2
    go_ret
    exact ⟨rfl, HB1.out⟩
  have hl2 : ¬ (20 : Int) < (xs.length : Int) := by omega
  have hl3 : ¬ (500 : Int) < (s.size : Int) := by omega
  have hn := newDisk_any ⟨#[]⟩ w1 (by decide)
  have HN := Lib.hid hn
  clear hn
  go_wp2_with fail
  (with_reducible refine HN.out.mono ?_)
  rintro e2 w2 ⟨p, v2, rfl, hd2, hb2⟩
  have e0 : (⟨#[]⟩ : ByteArray).data.toList = [] := rfl
  rw [e0] at hd2
  have hd2' := hd2.base_le HB1.out.size
  have hb2' := HB1.out.trans (hb2.mono HB1.out.size)
  have HD2 := Lib.hid hd2'
  have HB2 := Lib.hid hb2'
  clear hd2 hd2' hb2 hb2' HN HB1 e0
  go_wp2_with fail
  go_loopw [8] (fun i wr => ∃ (k : Nat) (v' : Value), i = .int .i64 k ∧ JAt xs w p k v' wr) (fun i _ => xs.length - (intOf i).toNat)
  case atStart => exact ⟨0, v2, rfl, HD2.out, HB2.out, by simp, Nat.zero_le _⟩
  case round =>
    obtain ⟨k, v', rfl, hj⟩ := hrel
    have hkl := hj.le
    by_cases hlt : k < xs.length
    · obtain ⟨b0, o0, c1, e1, hc⟩ := HR.out.at (by intro h; rw [h] at hlt; exact absurd hlt (Nat.not_lt_zero _))
      obtain ⟨rfl, rfl⟩ : a0 = some ⟨b0, o0, none⟩ ∧ c0 = c1 := by cases e1; exact ⟨rfl, rfl⟩
      obtain ⟨x, hxk⟩ : ∃ x, xs[k]? = some x := ⟨_, List.getElem?_eq_getElem hlt⟩
      have c1 := cell_later hj.low (hc k x hxk)
      have hi1 : (k : Int) < (xs.length : Int) := by omega
      have HJ := Lib.hid hj
      have HX := Lib.hid hxk
      clear e1 hc hj hxk
      by_cases h2 : 200 < x.size
      · have h3 : (200 : Int) < (x.size : Int) := by omega
        go_wp2
        go_ret
        exact ⟨rfl, HJ.out.low⟩
      · have h3 : ¬ (200 : Int) < (x.size : Int) := by omega
        have hpl := HJ.out.len
        have hxl2 : x.data.toList.length = x.size := by simp
        have hbad : apBad (pre xs k) x.data.toList = 0 := ap_small (by omega) (by omega)
        obtain ⟨q1, q2, q3, q4⟩ := ap_plain hbad
        have hap := append_any wr w.heap.size p v' (pre xs k) x.data.toList false (-1) e HJ.out.dk (HE.out.below HJ.out.low).et (by omega) (by omega) (by decide) (cell_lt HE.out.et.s10.cell) (HE.out.below HJ.out.low).tab
        rw [q1, q2, q3, q4, ← mk_self x] at hap
        have HAP := Lib.hid hap
        clear hap q1 q2 q3 q4 hbad hxl2
        go_wp2_with fail
        (with_reducible refine HAP.out.mono ?_)
        rintro e3 w3 ⟨v3, rfl, hd3, hf3, _⟩
        have hb3 : Below w.heap.size w w3 := HJ.out.low.trans (hf3.below (fun k hk => HJ.out.dk.far_ge hk) HJ.out.low.size)
        have HD3 := Lib.hid hd3
        have HB3 := Lib.hid hb3
        simp only [errV]
        clear hd3 hf3 hb3 HAP
        go_wp2
        go_roundw
        case rel =>
          refine ⟨k + 1, v3, by go_num, ?_, HB3.out, ?_, by omega⟩
          · rw [pre_succ HX.out]; exact HD3.out
          · intro y hy
            rw [take_succ HX.out, List.mem_append] at hy
            rcases hy with hy | hy
            · exact HJ.out.sm y hy
            · rw [List.mem_singleton] at hy; subst hy; omega
        case measure => simp [intOf]; omega
    · obtain rfl : k = xs.length := by omega
      have HJ := Lib.hid hj
      clear hj
      obtain ⟨L, hL⟩ : ∃ L, pre xs xs.length = L := ⟨_, rfl⟩
      have hLr : L = recsL (xs.map (·.data.toList)) := by rw [← hL, pre, List.take_length]
      have hall : ∀ y ∈ xs.map (·.data.toList), y.length ≤ 10000 := by
        intro y hy
        rw [List.mem_map] at hy
        obtain ⟨x, hx, rfl⟩ := hy
        have h1 := HJ.out.sm x (by rw [List.take_length]; exact hx)
        have h2 : x.data.toList.length = x.size := by simp
        show x.data.toList.length ≤ 10000
        omega
      have hmap : (xs.map (·.data.toList)).map mk = xs := by
        rw [List.map_map]
        exact (List.map_congr_left fun x _ => (mk_self x).symm).trans (List.map_id xs)
      obtain ⟨X, hX⟩ : ∃ X, xs.map (·.data.toList) = X := ⟨_, rfl⟩
      rw [hX] at hLr hall hmap
      have hXl : X.length = xs.length := by rw [← hX]; simp
      have hll := HJ.out.len
      rw [hL] at hll
      obtain ⟨S, hS⟩ : ∃ S, s.data.toList = S := ⟨_, rfl⟩
      have hSl : S.length = s.size := by rw [← hS]; simp
      obtain ⟨Y, hY⟩ : ∃ Y, (readF S).1 = Y := ⟨_, rfl⟩
      obtain ⟨m2, hm2⟩ : ∃ m2, (readF S).2 = m2 := ⟨_, rfl⟩
      have hr1 : readF L = (X, L.length) := by
        have h := readF_recs X [] hall
        rw [List.append_nil, readF_nil, ← hLr] at h
        simpa using h
      have hr3 : readF (L ++ S) = (X ++ Y, L.length + m2) := by
        rw [hLr, readF_recs X S hall, hY, hm2]
      have hm2l : m2 ≤ S.length := by rw [← hm2]; exact readF_le S
      have hYl : Y.length ≤ m2 := by rw [← hY, ← hm2]; exact readT_count _ _
      have hdk := HJ.out.dk
      rw [hL] at hdk
      have hby := bytes_any wr w.heap.size p v' L false (-1) hdk
      have hrd1 := read_any (mk L) m wr (by simp [ByteArray.size]; omega) (HE.out.below HJ.out.low).lib (HE.out.below HJ.out.low).tab (HE.out.below HJ.out.low).ml
      have e1 : (mk L).data.toList = L := rfl
      rw [e1] at hrd1
      unfold ReadPost at hrd1
      rw [hr1] at hrd1
      dsimp only at hrd1
      rw [hmap, hXl] at hrd1
      have HBY := Lib.hid hby
      have HRD1 := Lib.hid hrd1
      have HDK := Lib.hid hdk
      have HLOW := Lib.hid HJ.out.low
      have HMAP := Lib.hid hmap
      have HR3 := Lib.hid hr3
      have HY := Lib.hid hY
      have HM2 := Lib.hid hm2
      have HXL := Lib.hid hXl
      have HS := Lib.hid hS
      have hLS : L.length ≤ 4200 := by omega
      have hSS : S.length ≤ 500 := by omega
      have hm5 : m2 ≤ 500 := by omega
      have hY5 : Y.length ≤ 500 := by omega
      have hszL : (mk L).size = L.length := by simp [ByteArray.size]
      clear hL hLr hall hmap hX hXl hll hS hSl hY hm2 hr1 hr3 hm2l hYl hdk hby hrd1 e1
      go_wp2_with fail
      (with_reducible refine HBY.out.mono ?_)
      rintro e4 w4 ⟨rfl, rfl⟩
      go_wp2_with fail
      (with_reducible refine HRD1.out.mono ?_)
      rintro e5 w5 ⟨x1, rfl, hx1, hb5⟩
      obtain ⟨xa, xc, rfl⟩ := ownsRow_slice hx1
      have hlow5 := HLOW.out.trans (hb5.mono HLOW.out.size)
      have hrd2 := read_any s m w5 (by omega) (HE.out.below hlow5).lib (HE.out.below hlow5).tab (HE.out.below hlow5).ml
      unfold ReadPost at hrd2
      rw [HS.out, HY.out, HM2.out] at hrd2
      have HRD2 := Lib.hid hrd2
      have HX1 := Lib.hid hx1
      have HLOW5 := Lib.hid hlow5
      have HDK5 := Lib.hid (HDK.out.below hb5)
      have hs5 := hb5.size
      clear hx1 hb5 hlow5 hrd2 HRD1 HBY
      go_wp2_with fail
      (with_reducible refine HRD2.out.mono ?_)
      rintro e6 w6 ⟨y1, rfl, hy1, hb6⟩
      obtain ⟨ya, yc, rfl⟩ := ownsRow_slice hy1
      have hlow6 := HLOW5.out.trans (hb6.mono HLOW5.out.size)
      have hdk6 := HDK5.out.below hb6
      have hby6 := bytes_any w6 w.heap.size p v' L false (-1) hdk6
      have hcat : mk L ++ s = mk (L ++ S) := by rw [mk_self s, HS.out, mk_cat]
      have hrd3 := read_any (mk (L ++ S)) m w6 (by simp [ByteArray.size]; omega) (HE.out.below hlow6).lib (HE.out.below hlow6).tab (HE.out.below hlow6).ml
      have e1 : (mk (L ++ S)).data.toList = L ++ S := rfl
      rw [e1] at hrd3
      unfold ReadPost at hrd3
      rw [HR3.out] at hrd3
      dsimp only at hrd3
      obtain ⟨Z, hZ⟩ : ∃ Z, xs ++ Y.map mk = Z := ⟨_, rfl⟩
      have hz1 : (X ++ Y).map mk = Z := by rw [List.map_append, HMAP.out, hZ]
      have hz2 : (X ++ Y).length = Z.length := by rw [← hz1, List.length_map]
      rw [hz1, hz2, Int.natCast_add] at hrd3
      have hZl : Z.length = xs.length + Y.length := by rw [← hZ]; simp
      have HZ := Lib.hid hZ
      have HRD3 := Lib.hid hrd3
      clear hz1 hz2 hZ
      have HX6 := Lib.hid (own_later HX1.out hb6)
      have HY6 := Lib.hid hy1
      have HLOW6 := Lib.hid hlow6
      have HDK6 := Lib.hid hdk6
      have HBY6 := Lib.hid hby6
      have HCAT := Lib.hid hcat
      have hs6 := hb6.size
      clear hy1 hb6 hlow6 hdk6 hby6 hrd3 e1 hcat HRD2 HX1 HLOW5 HDK5
      go_wp2_with fail
      (with_reducible refine HBY6.out.mono ?_)
      rintro e7 w7 ⟨rfl, rfl⟩
      go_wp2_with fail
      rw [HCAT.out]
      (with_reducible refine HRD3.out.mono ?_)
      rintro e8 w8 ⟨z1, rfl, hz1, hb8⟩
      obtain ⟨za, zc, rfl⟩ := ownsRow_slice hz1
      have hlow8 := HLOW6.out.trans (hb8.mono HLOW6.out.size)
      have HX8 := Lib.hid (own_later HX6.out hb8)
      have HY8 := Lib.hid (own_later HY6.out hb8)
      have HZ8 := Lib.hid hz1
      have HDK8 := Lib.hid (HDK6.out.below hb8)
      have HLOW8 := Lib.hid hlow8
      clear hz1 hb8 hlow8 HRD3 HX6 HY6 HDK6 HCAT HLOW6 HBY6
      obtain ⟨i0, hi0, hz0, hz1, hz2⟩ := info_parts string_info
      have hxy : xs.length + (Y.map mk).length ≤ 3000000 := by rw [List.length_map]; omega
      have HYL := Lib.hid (show (Y.map mk).length = Y.length from List.length_map _)
      go_wp2_with (first
        | (at_builtin
           refine Tx.wpList_append_tx rfl (.tmp 78) (.tmp 79) rfl w8.heap.size i0 hi0 hz0 hz1 hz2 (.slice none 0 0) [] rfl ⟨by simp [cellsS], .inl ⟨rfl, rfl⟩⟩ (.slice xa xs.length xc) xs _ rfl HX8.out (by simp; omega) (Nat.le_refl _) ?_
           intro v9 w9 h9 hg9
           rw [List.nil_append] at h9
           obtain ⟨a9, c9, rfl⟩ := ownsRow_slice h9
           have H9 := Lib.hid h9
           have HG9 := Lib.hid (below_none hg9)
           clear h9 hg9)
        | (at_builtin
           refine Tx.wpList_append_tx rfl (.tmp 81) (.tmp 82) rfl w8.heap.size i0 hi0 hz0 hz1 hz2 (.slice a9 xs.length c9) xs rfl H9.out (.slice ya Y.length yc) (Y.map mk) _ rfl (by rw [HYL.out]; exact own_later HY8.out HG9.out) hxy HG9.out.size ?_
           intro v10 w10 h10 hg10
           rw [HZ.out] at h10
           obtain ⟨a10, c10, rfl⟩ := ownsRow_slice h10
           have H10 := Lib.hid h10
           have HG10 := Lib.hid (HG9.out.grown hg10 HG9.out.size (fun j ej => own_ge H9.out ej))
           clear h10 hg10))
      have hlow10 : Below w.heap.size w w10 := HLOW8.out.trans (HG10.out.mono HLOW8.out.size)
      have hra : Tx.Rd w10 (.slice xa xs.length xc) xs := (Tx.rd_own (xs := xs) HX8.out rfl).below HG10.out
      have hrl : Tx.Rd w10 (.slice a0 xs.length c0) xs := HR.out.below hlow10
      have hrz : Tx.Rd w10 (.slice za Z.length zc) Z := (Tx.rd_own (xs := Z) HZ8.out rfl).below HG10.out
      have hrb : Tx.Rd w10 (.slice a10 Z.length c10) Z := Tx.rd_own (xs := Z) H10.out rfl
      have hst1 := Tx.sameTexts_any _ _ _ _ _ hra hrl (by omega) (by omega)
      rw [decide_eq_true rfl] at hst1
      have hst2 := fun q => Tx.sameTexts_any _ _ _ _ _ (hrz.below (below_draw (Below.refl _ _) q)) (hrb.below (below_draw (Below.refl _ _) q)) (by omega) (by omega)
      rw [hZl] at hst2
      rw [decide_eq_true rfl] at hst2
      have hby := fun q => bytes_any (w10.drewN q) w.heap.size p v' L false (-1) ((HDK8.out.below HG10.out).below (below_draw (Below.refl _ _) q))
      have HST1 := Lib.hid hst1
      have HST2 := Lib.hid hst2
      have HBY := Lib.hid hby
      have HF := Lib.hid (fun q => hlow10.trans (below_draw (Below.refl w.heap.size w10) q))
      clear hlow10 hra hrl hrz hrb hst1 hst2 hby HX8 HZ8 H9 H10 HG9 HG10 HY8 HDK8
      (with_reducible refine HST1.out.mono ?_)
      rintro e11 w11 ⟨rfl, q, rfl⟩
      have HBQ := Lib.hid (HBY.out q)
      go_wp2_with fail
      (with_reducible refine HBQ.out.mono ?_)
      rintro e12 w12 ⟨rfl, rfl⟩
      have HSQ := Lib.hid (HST2.out q)
      go_wp2_with fail
      (with_reducible refine HSQ.out.mono ?_)
      rintro e13 w13 ⟨rfl, q2, rfl⟩
      have HFQ := Lib.hid (HF.out (q + q2))
      go_wp2
      go_ret
      exact ⟨rfl, HFQ.out⟩
end Tp
end Go.Proofs.YtmlndamkcipebaaDoor
