/- The walk of the law TapeCuts. -/
import Derived.Test.YtmlndamkcipebaaDoorTapeJoins
namespace Go.Proofs.YtmlndamkcipebaaDoor
open Go Go.RowKit Lmd
namespace Tp
open Rul Day Cand

theorem own_apart {W : World} {base b' p : Nat} {v dv : Value} {l : List UInt8} {off : Bool} {cut : Int} {n : Nat} {xs : List Value} (h : Dk W base p v l off cut) (ho : W.ownsRow b' 9 1 dv n xs) : ∀ g, dv.ownBlock = some g → g ≠ p ∧ some g ≠ v.ownBlock := by
  intro g hg
  rcases ho.2 with ⟨rfl, _⟩ | ⟨g', cap, cur, rfl, _, hr, _⟩
  · simp [Value.ownBlock] at hg
  · obtain rfl : g' = g := by simpa [Value.ownBlock] using hg
    refine ⟨?_, ?_⟩
    · rintro rfl
      have := h.row
      rw [hr] at this
      have ht : 9 = 88 := by injection this with e1; injection e1
      revert ht; decide
    · obtain ⟨k, cap2, cur2, fz, rfl, _, hr2, _⟩ := h.buf
      intro e
      obtain rfl : g' = k := by simpa [Value.ownBlock] using e
      rw [hr] at hr2
      have ht : 9 = 5 := by injection hr2 with e1; injection e1
      revert ht; decide
theorem own_away {S : Nat → Prop} {W W' : World} {base : Nat} {e : TypeId} {v : Value} {n : Nat} {xs : List Value} (h : W.ownsRow base e 1 v n xs) (hf : Far S W W') (hn : ∀ g, v.ownBlock = some g → ¬ S g) : W'.ownsRow base e 1 v n xs := by
  refine ⟨h.1, ?_⟩
  rcases h.2 with hx | ⟨g, cap, cur, rfl, h2, hr, h3⟩
  · exact .inl hx
  · exact .inr ⟨g, cap, cur, rfl, h2, by rw [hf.block g (Array.getElem?_eq_some_iff.1 hr).1 (hn g rfl)]; exact hr, h3⟩
theorem Dk.kept {w w' : World} {base p : Nat} {v : Value} {l : List UInt8} {off : Bool} {cut : Int} {row : Option Nat} (h : Dk w base p v l off cut) (hg : w.grownBy w' row) (hp : some p ≠ row) (hv : v.ownBlock ≠ row) : Dk w' base p v l off cut :=
  ⟨by rw [hg.block p (Array.getElem?_eq_some_iff.1 h.row).1 hp]; exact h.row, h.buf.kept hg hv, h.ge⟩

/-- the bytes of texts that were appended -/
def recsB (D : List ByteArray) : List UInt8 := recsL (D.map (·.data.toList))
theorem recsB_snoc (D : List ByteArray) (x : ByteArray) : recsB (D ++ [x]) = recsB D ++ recL x.data.toList := by
  unfold recsB
  rw [List.map_append, List.map_cons, List.map_nil, recsL_snoc]
theorem recsB_le (D : List ByteArray) (h : ∀ x ∈ D, x.size ≤ 200) : (recsB D).length ≤ 208 * D.length := by
  have h1 := recsL_le (D.map (·.data.toList)) (by
    intro y hy
    rw [List.mem_map] at hy
    obtain ⟨x, hx, rfl⟩ := hy
    have := h x hx
    simpa using this)
  rw [List.length_map] at h1; exact h1
theorem map_mk (D : List ByteArray) : (D.map (·.data.toList)).map mk = D := by
  rw [List.map_map]
  exact (List.map_congr_left fun x _ => (mk_self x).symm).trans (List.map_id D)
theorem readF_recsB (D : List ByteArray) (tl : List UInt8) (h : ∀ x ∈ D, x.size ≤ 200) (ht : oneB tl = false) : readF (recsB D ++ tl) = (D.map (·.data.toList), (recsB D).length) := by
  unfold recsB
  rw [readF_recs _ tl (by
    intro y hy
    rw [List.mem_map] at hy
    obtain ⟨x, hx, rfl⟩ := hy
    have h1 := h x hx
    have h2 : x.data.toList.length = x.size := by simp
    show x.data.toList.length ≤ 10000
    omega), readF_no ht]
  simp
theorem one_nil : oneB [] = false := by
  unfold oneB lenOk
  simp [Lib.cut, Lib.index]
/-- the state of the loop of TapeCuts: texts that were appended with no error, and what power left of one -/
structure CAt (xs : List ByteArray) (w : World) (p k : Nat) (v dv : Value) (D : List ByteArray) (tl : List UInt8) (off : Bool) (c : Int) (W : World) : Prop where
  dk : Dk W w.heap.size p v (recsB D ++ tl) off c
  low : Below w.heap.size w W
  le : k ≤ xs.length
  own : W.ownsRow w.heap.size 9 1 dv D.length (cellsS D)
  dl : D.length ≤ k
  sm : ∀ x ∈ D, x.size ≤ 200
  tail : (off = false ∧ tl = []) ∨ (off = true ∧ oneB tl = false ∧ tl.length ≤ 300)
  cut : 0 ≤ c ∧ c ≤ 9223372036854775807
theorem CAt.len {xs : List ByteArray} {w : World} {p k : Nat} {v dv : Value} {D : List ByteArray} {tl : List UInt8} {off : Bool} {c : Int} {W : World} (h : CAt xs w p k v dv D tl off c W) : (recsB D ++ tl).length ≤ 208 * k + 300 := by
  have h1 := recsB_le D h.sm
  have h2 := h.dl
  rw [List.length_append]
  rcases h.tail with ⟨_, rfl⟩ | ⟨_, _, h3⟩
  · simp; omega
  · omega
theorem CAt.none {xs : List ByteArray} {w : World} {p k : Nat} {v dv : Value} {D : List ByteArray} {tl : List UInt8} {off : Bool} {c : Int} {W : World} (h : CAt xs w p k v dv D tl off c W) : oneB tl = false := by
  rcases h.tail with ⟨_, rfl⟩ | ⟨_, h3, _⟩
  · exact one_nil
  · exact h3

theorem CAt.step {xs : List ByteArray} {w : World} {p k : Nat} {v dv : Value} {D : List ByteArray} {tl : List UInt8} {off : Bool} {c : Int} {W : World} (h : CAt xs w p k v dv D tl off c W) (x : ByteArray) (hx : x.size ≤ 200) (hk : k ≤ 30) :
    (apC off c (recsB D ++ tl) x.data.toList = 0 ∧ off = false ∧ tl = [] ∧ apL off c (recsB D ++ tl) x.data.toList = recsB D ++ tl ++ recL x.data.toList ∧ apO off c (recsB D ++ tl) x.data.toList = false ∧ 0 ≤ apN off c (recsB D ++ tl) x.data.toList ∧ apN off c (recsB D ++ tl) x.data.toList ≤ 9223372036854775807) ∨
    (apC off c (recsB D ++ tl) x.data.toList = 11 ∧ ∃ tl', apL off c (recsB D ++ tl) x.data.toList = recsB D ++ tl' ∧ apO off c (recsB D ++ tl) x.data.toList = true ∧ oneB tl' = false ∧ tl'.length ≤ 300 ∧ apN off c (recsB D ++ tl) x.data.toList = c) := by
  have hl := h.len
  have hxl : x.data.toList.length = x.size := by simp
  have hb : apBad (recsB D ++ tl) x.data.toList = 0 := ap_small (by omega) (by omega)
  have hrl := recL_le x.data.toList (by omega)
  obtain ⟨hc0, hc1⟩ := h.cut
  unfold apC apL apO apN
  rw [if_pos hb, if_pos hb, if_pos hb, if_pos hb]
  rcases h.tail with ⟨rfl, rfl⟩ | ⟨rfl, h1, h2⟩
  · by_cases hcut : 0 ≤ c ∧ c < ((recL x.data.toList).length : Int)
    · right
      unfold wrC wrL wrO wrN
      simp only [hcut, and_self, if_true, decide_true, List.append_nil, Bool.false_eq_true, if_false]
      refine ⟨trivial, (recL x.data.toList).take c.toNat, rfl, trivial, ?_, ?_, trivial⟩
      · refine one_pre (s := x.data.toList) (q := (recL x.data.toList).drop c.toNat) (by omega) (List.take_append_drop _ _).symm ?_
        intro e
        have := congrArg List.length e
        rw [List.length_drop] at this
        simp at this; omega
      · rw [List.length_take]; omega
    · left
      have h3 : ¬ (c < ((recL x.data.toList).length : Int)) := fun h => hcut ⟨hc0, h⟩
      have e1 : wrC false c (recL x.data.toList) = 0 := by unfold wrC; rw [if_neg (by decide), if_neg hcut]
      have e2 : wrL false c (recsB D ++ []) (recL x.data.toList) = recsB D ++ [] ++ recL x.data.toList := by unfold wrL; rw [if_neg (by decide), if_neg hcut]
      have e3 : wrO false c (recL x.data.toList) = false := by unfold wrO; rw [if_neg (by decide)]; exact decide_eq_false hcut
      have e4 : wrN false c (recL x.data.toList) = c - ((recL x.data.toList).length : Int) := by unfold wrN; rw [if_neg (by decide), if_neg hcut, if_pos hc0]
      rw [e1, e2, e3, e4]
      exact ⟨rfl, rfl, rfl, rfl, rfl, by omega, by omega⟩
  · right
    unfold wrC wrL wrO wrN
    simp only [if_true]
    exact ⟨trivial, tl, rfl, trivial, h1, h2, trivial⟩

set_option maxRecDepth 100000 in
set_option maxHeartbeats 1500000 in
theorem tapeCuts_any (xs : List ByteArray) (v : Value) (n : Int) (e : Nat → Addr) (m : Int) (w : World) (h : TEnv w e m) (hr : Tx.Rd w v xs) (hxl : xs.length ≤ 9223372036854775807) (hn : n ≤ 9223372036854775807) :
    Calls Tryd.prog 5 #[v, .int .i64 n] w fun e' w' => e' = .returned (.bool true) ∧ Below w.heap.size w w' := by
  obtain ⟨a0, c0, rfl⟩ := hr.shape
  have ht := taped_any e m w h
  have HT := Lib.hid ht
  have HE := Lib.hid h
  have HR := Lib.hid hr
  clear ht h hr
  go_enter Tryd.func5, Tryd.ntmps5
  go_wp2_with fail
  (with_reducible refine HT.out.mono ?_)
  rintro e1 w1 ⟨rfl, hb1⟩
  have HB1 := Lib.hid hb1
  clear hb1 HT
  by_cases hl : 30 < xs.length
  · have hl2 : (30 : Int) < (xs.length : Int) := by omega
    go_wp2
    go_ret
    exact ⟨rfl, HB1.out⟩
  by_cases hn0 : n < 0
  · have hl2 : ¬ (30 : Int) < (xs.length : Int) := by omega
    go_wp2
    go_ret
    exact ⟨rfl, HB1.out⟩
  have hl2 : ¬ (30 : Int) < (xs.length : Int) := by omega
  have hnd := newDisk_any ⟨#[]⟩ w1 (by decide)
  have HN := Lib.hid hnd
  clear hnd
  go_wp2_with fail
  (with_reducible refine HN.out.mono ?_)
  rintro e2 w2 ⟨p, v2, rfl, hd2, hb2⟩
  have e0 : (⟨#[]⟩ : ByteArray).data.toList = [] := rfl
  rw [e0] at hd2
  have hd2' := hd2.base_le HB1.out.size
  have hb2' := HB1.out.trans (hb2.mono HB1.out.size)
  have hct := cut_any w2 w.heap.size p v2 [] false (-1) n e hd2' (HE.out.below hb2').et
  have hcc : cutC false n = 0 := by unfold cutC; rw [if_neg (by omega)]; rfl
  rw [hcc] at hct
  have HCT := Lib.hid hct
  have HB2 := Lib.hid hb2'
  have HD2 := Lib.hid hd2'
  clear hd2 hd2' hb2 hb2' HN HB1 e0 hct hcc
  go_wp2_with fail
  (with_reducible refine HCT.out.mono ?_)
  rintro e3 w3 ⟨rfl, hd3, hf3⟩
  simp only [errV, if_true] at hd3 ⊢
  have hb3 := far_low hf3 HB2.out HD2.out.ge
  have HD3 := Lib.hid hd3
  have HB3 := Lib.hid hb3
  clear hd3 hf3 hb3 HCT HD2 HB2
  go_wp2_with fail
  go_loopw [8, 9] (fun dv i wr => ∃ (k : Nat) (v' : Value) (D : List ByteArray) (tl : List UInt8) (off : Bool) (c : Int), i = .int .i64 k ∧ (∃ a c', dv = .slice a D.length c') ∧ CAt xs w p k v' dv D tl off c wr) (fun _ i _ => xs.length - (intOf i).toNat)
  case atStart => exact ⟨0, v2, [], [], false, n, rfl, ⟨none, 0, rfl⟩, HD3.out, HB3.out, Nat.zero_le _, ⟨by simp [cellsS], .inl ⟨rfl, rfl⟩⟩, Nat.le_refl _, by simp, .inl ⟨rfl, rfl⟩, by omega⟩
  case round =>
    obtain ⟨k, v', D, tl, off, c, rfl, ⟨a9, c9, rfl⟩, hj⟩ := hrel
    have hkl := hj.le
    by_cases hlt : k < xs.length
    · obtain ⟨b0, o0, c1, e1, hc⟩ := HR.out.at (by intro h; rw [h] at hlt; exact absurd hlt (Nat.not_lt_zero _))
      obtain ⟨rfl, rfl⟩ : a0 = some ⟨b0, o0, none⟩ ∧ c0 = c1 := by cases e1; exact ⟨rfl, rfl⟩
      obtain ⟨x, hxk⟩ : ∃ x, xs[k]? = some x := ⟨_, List.getElem?_eq_getElem hlt⟩
      have c1 := cell_later hj.low (hc k x hxk)
      have hi1 : (k : Int) < (xs.length : Int) := by omega
      have HJ := Lib.hid hj
      have HC := Lib.hid (hc k x hxk)
      clear e1 hc hj hxk
      by_cases h2 : 200 < x.size
      · have h3 : (200 : Int) < (x.size : Int) := by omega
        go_wp2
        go_ret
        exact ⟨rfl, HJ.out.low⟩
      · have h3 : ¬ (200 : Int) < (x.size : Int) := by omega
        have hpl := HJ.out.len
        have hxl2 : x.data.toList.length = x.size := by simp
        have hap := append_any wr w.heap.size p v' (recsB D ++ tl) x.data.toList off c e HJ.out.dk (HE.out.below HJ.out.low).et (by omega) (by omega) (by have := HJ.out.cut; omega) (cell_lt HE.out.et.s10.cell) (HE.out.below HJ.out.low).tab
        rw [← mk_self x] at hap
        have hdl := HJ.out.dl
        rcases HJ.out.step x (by omega) (by omega) with ⟨q1, rfl, rfl, q2, q3, q4, q5⟩ | ⟨q1, tl', q2, q3, q4, q5, q6⟩
        · rw [q1, q2, q3] at hap
          obtain ⟨c', hc'⟩ : ∃ c', apN false c (recsB D ++ []) x.data.toList = c' := ⟨_, rfl⟩
          rw [hc'] at hap q4 q5
          have HAP := Lib.hid hap
          have hq : 0 ≤ c' ∧ c' ≤ 9223372036854775807 := ⟨q4, q5⟩
          have HQ := Lib.hid hq
          clear hap q1 q2 q3 q4 q5 hxl2 hc' hq
          obtain ⟨i0, hi0, hz0, hz1, hz2⟩ := info_parts string_info
          go_wp2_with fail
          (with_reducible refine HAP.out.mono ?_)
          rintro e4 w4 ⟨v3, rfl, hd4, hf4, _⟩
          have hb4 : Below w.heap.size w w4 := HJ.out.low.trans (hf4.below (fun k hk => HJ.out.dk.far_ge hk) HJ.out.low.size)
          have hown4 := own_away HJ.out.own hf4 (fun g hg => by
            have := own_apart HJ.out.dk HJ.out.own g hg
            rintro (h | h)
            · exact this.1 h
            · exact this.2 h)
          have c1 := cell_later hb4 HC.out
          have HD4 := Lib.hid hd4
          have HB4 := Lib.hid hb4
          have HOWN := Lib.hid hown4
          have hs4 := hb4.size
          simp only [errV]
          clear hd4 hf4 hb4 HAP hown4
          go_wp2_with (first
            | (at_builtin
               refine wpList_append_own _ rfl (.tmp 60) (.tmp 65) _ rfl w.heap.size 9 i0 _ 1 16 Tryd.underlying22 hi0 hz0 hz1 hz2 rfl (by omega) (.slice a9 D.length c9) D.length (cellsS D) rfl
                 (HOWN.out.alloc _) ⟨w4.heap.size, 0, none⟩ 1 1 [.string x] rfl rfl
                 (fun j u hu => by
                   cases j with
                   | zero =>
                     simp at hu; subst hu
                     exact cell_of (heap_new w4 (.cells #[.string x] 9)) rfl
                   | succ j => simp at hu) (fun u hu => by simp at hu; subst hu; rfl) (by simp only [maxLen]; omega) (by omega) (by simp; omega) ?_
               intro v1 wb hown' hg hnil
               have hbb : Below w.heap.size w4 wb := ((Below.refl _ w4).alloc (by omega) _).grown hg (by simp; omega) (fun j ej => own_ge HOWN.out ej)
               have hdb : Dk wb w.heap.size p v3 (recsB D ++ [] ++ recL x.data.toList) false c' := (HD4.out.below ((Below.refl _ w4).alloc (Nat.le_refl _) _)).kept hg (by
                 intro e
                 exact (own_apart HD4.out HOWN.out p e.symm).1 rfl) (by
                 intro e
                 obtain ⟨g, hg2⟩ : ∃ g, v3.ownBlock = some g := by
                   obtain ⟨g, c, rfl, _⟩ := HD4.out.buf.shape
                   exact ⟨g, rfl⟩
                 have := (own_apart HD4.out HOWN.out g (e.symm.trans hg2)).2
                 exact this hg2.symm)
               obtain ⟨a1, c2, e1⟩ : ∃ a1 c2, v1 = .slice a1 (D.length + 1) c2 := ownsRow_slice hown'
               subst e1
               have HOB := Lib.hid hown'
               have HBB := Lib.hid hbb
               have HDB := Lib.hid hdb
               clear hown' hg hnil hbb hdb))
          go_roundw
          case rel =>
            refine ⟨k + 1, v3, D ++ [x], [], false, c', by go_num, ⟨a1, c2, by simp⟩, ?_, HB4.out.trans HBB.out, by omega, ?_, by simp; omega, ?_, .inl ⟨rfl, rfl⟩, HQ.out⟩
            · rw [recsB_snoc, List.append_nil]
              have := HDB.out
              rw [List.append_nil] at this
              exact this
            · have e : cellsS (D ++ [x]) = cellsS D ++ [.string x] := by simp [cellsS]
              rw [e, List.length_append]; exact HOB.out
            · intro y hy
              rcases List.mem_append.1 hy with hy | hy
              · exact HJ.out.sm y hy
              · rw [List.mem_singleton] at hy; subst hy; omega
          case measure => simp [intOf]; omega
        · rw [q1, q2, q3, q6] at hap
          have HAP := Lib.hid hap
          have hq : oneB tl' = false ∧ tl'.length ≤ 300 := ⟨q4, q5⟩
          have HQ := Lib.hid hq
          clear hap q1 q2 q3 q4 q5 q6 hxl2 hq
          go_wp2_with fail
          (with_reducible refine HAP.out.mono ?_)
          rintro e4 w4 ⟨v3, rfl, hd4, hf4, _⟩
          have hb4 : Below w.heap.size w w4 := HJ.out.low.trans (hf4.below (fun k hk => HJ.out.dk.far_ge hk) HJ.out.low.size)
          have hown4 := own_away HJ.out.own hf4 (fun g hg => by
            have := own_apart HJ.out.dk HJ.out.own g hg
            rintro (h | h)
            · exact this.1 h
            · exact this.2 h)
          have HD4 := Lib.hid hd4
          have HB4 := Lib.hid hb4
          have HOWN := Lib.hid hown4
          simp only [errV, Er.ev]
          clear hd4 hf4 hb4 HAP hown4
          go_wp2
          go_roundw
          case rel =>
            exact ⟨k + 1, v3, D, tl', true, c, by go_num, ⟨a9, c9, rfl⟩, HD4.out, HB4.out, by omega, HOWN.out, by omega, HJ.out.sm, .inr ⟨rfl, HQ.out⟩, HJ.out.cut⟩
          case measure => simp [intOf]; omega
    · obtain rfl : k = xs.length := by omega
      have HJ := Lib.hid hj
      clear hj
      have hpl := HJ.out.len
      have hrf := readF_recsB D tl HJ.out.sm HJ.out.none
      have hrb := recsB_le D HJ.out.sm
      have hdl := HJ.out.dl
      have hrc := recover_any w wr p v' (recsB D ++ tl) off c m HJ.out.dk HJ.out.low (by omega) HE.out.lib HE.out.tab HE.out.ml
      have HRC := Lib.hid hrc
      have HRF := Lib.hid hrf
      clear hrc hrf
      go_wp2_with fail
      (with_reducible refine HRC.out.mono ?_)
      rintro e4 w4 ⟨u, v4, rfl, hu, hd4, hv4, hf4⟩
      rw [HRF.out] at hu hd4
      dsimp only at hu hd4
      rw [map_mk, List.length_map] at hu
      rw [List.take_left] at hd4
      obtain ⟨ua, uc, rfl⟩ := ownsRow_slice hu
      have hb4 := far_low hf4 HJ.out.low HJ.out.dk.ge
      have hown4 := own_away HJ.out.own hf4 (fun g hg h => (own_apart HJ.out.dk HJ.out.own g hg).1 h)
      have hst := Tx.sameTexts_any w4 _ _ D D (Tx.rd_own hu rfl) (Tx.rd_own hown4 rfl) (by omega) (by omega)
      rw [decide_eq_true rfl] at hst
      have hpw := fun q => power_any (w4.drewN q) w.heap.size p v4 (recsB D) false (-1) (hd4.below (below_draw (Below.refl _ _) q))
      have hlowq := fun q => hb4.trans (below_draw (Below.refl w.heap.size w4) q)
      have hap := fun q => append_any (w4.drewN q) w.heap.size p v4 (recsB D) [111, 110, 101, 32, 109, 111, 114, 101] false (-1) e (hd4.below (below_draw (Below.refl _ _) q)) (HE.out.below (hlowq q)).et (by omega) (by decide) (by decide) (cell_lt HE.out.et.s10.cell) (HE.out.below (hlowq q)).tab
      obtain ⟨q1, q2, q3, q4⟩ := ap_plain (l := recsB D) (s := [111, 110, 101, 32, 109, 111, 114, 101]) (ap_small (by decide) (by omega))
      rw [q1, q2, q3, q4] at hap
      have HST := Lib.hid hst
      have HPW := Lib.hid hpw
      have HAP := Lib.hid hap
      have HD4 := Lib.hid hd4
      have HL4 := Lib.hid hlowq
      clear hu hd4 hv4 hf4 hb4 hown4 hst hpw hlowq hap q1 q2 q3 q4 HRC
      go_wp2_with fail
      (with_reducible refine HST.out.mono ?_)
      rintro e5 w5 ⟨rfl, q, rfl⟩
      have HP5 := Lib.hid (HPW.out q)
      have HA5 := Lib.hid (HAP.out q)
      have HL5 := Lib.hid (HL4.out q)
      clear HST HPW HAP
      go_wp2_with fail
      (with_reducible refine HP5.out.mono ?_)
      rintro e6 w6 ⟨rfl, rfl⟩
      go_wp2_with fail
      (with_reducible refine HA5.out.mono ?_)
      rintro e7 w7 ⟨v7, rfl, hd7, hf7, _⟩
      have hb7 : Below w.heap.size w w7 := HL5.out.trans (hf7.below (fun k hk => HD4.out.far_ge hk) HL5.out.size)
      simp only [errV]
      have hom : recsB (D ++ [mk [111, 110, 101, 32, 109, 111, 114, 101]]) = recsB D ++ recL [111, 110, 101, 32, 109, 111, 114, 101] := recsB_snoc _ _
      obtain ⟨D2, hD2⟩ : ∃ D2, D ++ [mk [111, 110, 101, 32, 109, 111, 114, 101]] = D2 := ⟨_, rfl⟩
      rw [hD2] at hom
      rw [← hom] at hd7
      have hsm2 : ∀ x ∈ D2, x.size ≤ 200 := by
        rw [← hD2]
        intro x hx
        rcases List.mem_append.1 hx with hx | hx
        · exact HJ.out.sm x hx
        · rw [List.mem_singleton] at hx; subst hx; decide
      have hD2l : D2.length = D.length + 1 := by rw [← hD2]; simp
      have hat : D2[D.length]? = some (mk [111, 110, 101, 32, 109, 111, 114, 101]) := by rw [← hD2]; simp
      have hrb2 := recsB_le D2 hsm2
      have hrf2 := readF_recsB D2 [] hsm2 one_nil
      rw [List.append_nil] at hrf2
      obtain ⟨L2, hL2⟩ : ∃ L2, recsB D2 = L2 := ⟨_, rfl⟩
      rw [hL2] at hd7 hrb2 hrf2
      have hby := bytes_any w7 w.heap.size p v7 L2 false (-1) hd7
      have hrd := read_any (mk L2) m w7 (by simp [ByteArray.size]; omega) (HE.out.below hb7).lib (HE.out.below hb7).tab (HE.out.below hb7).ml
      have e1 : (mk L2).data.toList = L2 := rfl
      rw [e1] at hrd
      unfold ReadPost at hrd
      rw [hrf2] at hrd
      dsimp only at hrd
      rw [map_mk, List.length_map] at hrd
      have HBY := Lib.hid hby
      have HRD := Lib.hid hrd
      have HD7 := Lib.hid hd7
      have HB7 := Lib.hid hb7
      have HAT := Lib.hid hat
      have HDL2 := Lib.hid hD2l
      have hL2s : L2.length ≤ 7000 := by omega
      have hszL : (mk L2).size = L2.length := by simp [ByteArray.size]
      clear hd7 hf7 hb7 hom hD2 hsm2 hat hrb2 hrf2 hL2 hby hrd e1 HA5 HP5 hD2l
      go_wp2_with fail
      (with_reducible refine HBY.out.mono ?_)
      rintro e8 w8 ⟨rfl, rfl⟩
      go_wp2_with fail
      (with_reducible refine HRD.out.mono ?_)
      rintro e9 w9 ⟨x9, rfl, hx9, hb9⟩
      obtain ⟨b9, o9, c9', rfl, hc9⟩ := (Tx.rd_own (xs := D2) hx9 rfl).at (by intro h; have := HDL2.out; rw [h] at this; simp at this)
      have hc := hc9 D.length _ HAT.out
      have hdlen : ((D2.length : Nat) : Int) = (D.length : Int) + 1 := by rw [HDL2.out]; simp
      have hd91 : ((D.length : Nat) : Int) < (D2.length : Int) := by omega
      have hd92 : D.length < D2.length := by rw [HDL2.out]; omega
      have hby9 := bytes_any w9 w.heap.size p v7 L2 false (-1) (HD7.out.below hb9)
      have HBY9 := Lib.hid hby9
      have HF := Lib.hid (HB7.out.trans (hb9.mono HB7.out.size))
      have HC := Lib.hid hc
      clear hx9 hb9 hc9 hby9 HRD HBY
      go_wp2_with fail
      (with_reducible refine HBY9.out.mono ?_)
      rintro e10 w10 ⟨rfl, rfl⟩
      have hc := HC.out
      have hh : (mk [111, 110, 101, 32, 109, 111, 114, 101]).toList = [111, 110, 101, 32, 109, 111, 114, 101] := toList_mk _
      go_wp2
      go_ret
      exact ⟨rfl, HF.out⟩
end Tp
end Go.Proofs.YtmlndamkcipebaaDoor
