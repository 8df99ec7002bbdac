/- The closed fact taped. -/
import Derived.Test.YtmlndamkcipebaaDoorDisk3
import Derived.Test.YtmlndamkcipebaaDoorTexts
namespace Go.Proofs.YtmlndamkcipebaaDoor
open Go Go.RowKit Lmd
namespace Tp
open Rul Day Cand

/-- what the laws of tapes stand on -/
structure TEnv (w : World) (e : Nat → Addr) (m : Int) : Prop where
  et : ET w e
  lib : ELib w
  tab : Lib.TabIs Tryd.prog w "internal/strconv.uint64pow10" .u64 Lib.pow10Tab
  ml : w.cell? ⟨13, 0, none⟩ = some (.int .i64 m)
theorem TEnv.below {w w' : World} {e : Nat → Addr} {m : Int} (h : TEnv w e m) (hb : Below w.heap.size w w') : TEnv w' e m :=
  ⟨h.et.below hb, h.lib.below hb, Frame.tab_below (g := 12) (by kernel_rfl) hb h.tab, cell_later hb h.ml⟩
theorem Buf.base_le {w : World} {b b' : Nat} {v : Value} {l : List UInt8} (h : Buf w b v l) (hb : b' ≤ b) : Buf w b' v l := by
  obtain ⟨g, cap, cur, fz, h1, h2, h3⟩ := h
  exact ⟨g, cap, cur, fz, h1, Nat.le_trans hb h2, h3⟩
theorem Dk.base_le {w : World} {b b' p : Nat} {v : Value} {l : List UInt8} {off : Bool} {cut : Int} (h : Dk w b p v l off cut) (hb : b' ≤ b) : Dk w b' p v l off cut := ⟨h.row, h.buf.base_le hb, Nat.le_trans hb h.ge⟩
theorem toList_mk (l : List UInt8) : (mk l).toList = l := by rw [ByteArray.toList_eq]
theorem Dk.far_ge {w : World} {base p : Nat} {v : Value} {l : List UInt8} {off : Bool} {cut : Int} (h : Dk w base p v l off cut) {k : Nat} (hk : k = p ∨ some k = v.ownBlock) : base ≤ k := by
  rcases hk with rfl | hk
  · exact h.ge
  · obtain ⟨g, c, rfl, hg, _⟩ := h.buf.shape
    obtain rfl : k = g := by simpa [Value.ownBlock] using hk
    exact hg
theorem ab_rec : recL [97, 32, 98] = [51, 58, 97, 32, 98, 10, 46] := by
  unfold recL
  rw [Lib.itoa_nonneg]
  unfold Lib.decDigits
  rfl
set_option maxRecDepth 100000 in
set_option maxHeartbeats 800000 in
theorem taped_any (e : Nat → Addr) (m : Int) (w : World) (h : TEnv w e m) :
    Calls Tryd.prog 11 #[] w fun e' w' => e' = .returned (.bool true) ∧ Below w.heap.size w w' := by
  have hn := newDisk_any ⟨#[]⟩ w (by decide)
  have HN := Lib.hid hn
  have HE := Lib.hid h
  clear hn h
  go_enter Tryd.func11, Tryd.ntmps11
  go_wp2_with fail
  (with_reducible refine HN.out.mono ?_)
  rintro e1 w1 ⟨p, v, rfl, hd, hb1⟩
  have h1 := HE.out.below hb1
  have hlt : 4 < w.heap.size := cell_lt HE.out.et.s10.cell
  have e0 : (⟨#[]⟩ : ByteArray).data.toList = [] := rfl
  rw [e0] at hd
  have hap := append_any w1 w.heap.size p v [] [97, 32, 98] false (-1) e hd h1.et (by decide) (by decide) (by decide) hlt h1.tab
  have hc : apC false (-1) [] [97, 32, 98] = 0 ∧ apL false (-1) [] [97, 32, 98] = recL [97, 32, 98] ∧ apO false (-1) [] [97, 32, 98] = false ∧ apN false (-1) [] [97, 32, 98] = -1 := by
    unfold apC apL apO apN apBad
    rw [ab_rec]
    decide
  obtain ⟨c1, c2, c3, c4⟩ := hc
  rw [c1, c2, c3, c4] at hap
  have HAP := Lib.hid hap
  have HD := Lib.hid hd
  have HB1 := Lib.hid hb1
  clear hap hd hb1 h1 e0 c1 c2 c3 c4 HN
  go_wp2_with fail
  (with_reducible refine HAP.out.mono ?_)
  rintro e2 w2 ⟨v2, rfl, hd2, hf2, _⟩
  simp only [errV]
  have hb2 : Below w.heap.size w w2 := HB1.out.trans (hf2.below (fun k hk => HD.out.far_ge hk) HB1.out.size)
  have h2 := HE.out.below hb2
  have hrc := recover_any w w2 p v2 (recL [97, 32, 98]) false (-1) m hd2 hb2 (by rw [ab_rec]; decide) HE.out.lib HE.out.tab HE.out.ml
  have HRC := Lib.hid hrc
  have HD2 := Lib.hid hd2
  have HB2 := Lib.hid hb2
  clear hrc hd2 hf2 hb2 h2 HAP HD
  go_wp2_with fail
  (with_reducible refine HRC.out.mono ?_)
  rintro e3 w3 ⟨u, v3, rfl, hown, hd3, _, hf3⟩
  have hrf : readF (recL [97, 32, 98]) = ([[97, 32, 98]], (recL [97, 32, 98]).length) := by
    have h := readF_yes [97, 32, 98] [] (by decide)
    rw [List.append_nil, readF_nil] at h
    exact h
  rw [hrf] at hown hd3
  rw [List.take_length] at hd3
  have hb3 : Below w.heap.size w w3 := far_low hf3 HB2.out hd3.ge
  obtain ⟨ua, uc, rfl⟩ := ownsRow_slice hown
  have HOWN := Lib.hid hown
  have HD3 := Lib.hid hd3
  have HB3 := Lib.hid hb3
  clear hown hd3 hf3 hb3 hrf HRC
  go_wp2_with fail
  have hx4 := heap_new w3 (.cells #[.string ⟨#[97, 32, 98]⟩] 9)
  have hb4 : Below w3.heap.size w3 (w3.alloc (.cells #[.string ⟨#[97, 32, 98]⟩] 9)) := (Below.refl _ w3).alloc (Nat.le_refl _) _
  have hrb : Tx.Rd (w3.alloc (.cells #[.string ⟨#[97, 32, 98]⟩] 9)) (.slice (some ⟨w3.heap.size, 0, none⟩) 1 1) [⟨#[97, 32, 98]⟩] := by
    refine .inr ⟨w3.heap.size, 0, 1, rfl, fun j x hx => ?_⟩
    cases j with
    | zero => cases hx; exact cell_of hx4 rfl
    | succ j => cases hx
  have hra : Tx.Rd (w3.alloc (.cells #[.string ⟨#[97, 32, 98]⟩] 9)) (.slice ua 1 uc) [⟨#[97, 32, 98]⟩] := (Tx.rd_own (xs := [⟨#[97, 32, 98]⟩]) HOWN.out rfl).below hb4
  have hst := Tx.sameTexts_any _ _ _ _ _ hra hrb (by decide) (by decide)
  rw [decide_eq_true rfl] at hst
  have hby := fun q => bytes_any _ _ p v3 _ _ _ ((HD3.out.below hb4).below (below_draw (Below.refl _ _) q))
  rw [ab_rec] at hby
  have HST := Lib.hid hst
  have HBY := Lib.hid hby
  have HF := Lib.hid (HB3.out.trans (hb4.mono HB3.out.size))
  clear hx4 hb4 hrb hra hst hby
  (with_reducible refine HST.out.mono ?_)
  rintro e4 w5 ⟨rfl, q, rfl⟩
  have hby := HBY.out q
  have HBQ := Lib.hid hby
  have HF2 := Lib.hid (HF.out.trans (below_draw (Below.refl _ _) q))
  clear hby HBY HST
  go_wp2_with fail
  (with_reducible refine HBQ.out.mono ?_)
  rintro e6 w6 ⟨rfl, rfl⟩
  have hh : (mk [51, 58, 97, 32, 98, 10, 46]).toList = [51, 58, 97, 32, 98, 10, 46] := toList_mk _
  go_wp2
  go_ret
  exact ⟨rfl, HF2.out⟩
end Tp
end Go.Proofs.YtmlndamkcipebaaDoor
