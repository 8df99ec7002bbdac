/- The closed fact pooled. -/
import Derived.Test.YtmlndamkcipebaaDoorPoolPlain
namespace Go.Proofs.YtmlndamkcipebaaDoor
open Go Go.RowKit Lmd
namespace Pl
open Rul Day Cand Tp Pk

/-- what the laws of pools stand on -/
structure LEnv (w : World) (e : Nat → Addr) (m : Int) : Prop where
  el : EL w e
  lib : ELib w
  tab : Lib.TabIs Tryd.prog w "internal/strconv.uint64pow10" .u64 Lib.pow10Tab
  ml : w.cell? ⟨13, 0, none⟩ = some (.int .i64 m)
theorem LEnv.below {w w' : World} {e : Nat → Addr} {m : Int} (h : LEnv w e m) (hb : Below w.heap.size w w') : LEnv w' e m :=
  ⟨h.el.below hb, h.lib.below hb, Frame.tab_below (g := 12) (by kernel_rfl) hb h.tab, cell_later hb h.ml⟩
theorem far_pool {w W W' : World} {base p m : Nat} {v : Value} {xs : List (List UInt8)} (h : Is W base p v m xs) (hf : Far (fun k => k = p ∨ k = m ∨ some k = v.ownBlock) W W') (hb : Below w.heap.size w W) (hbase : w.heap.size ≤ base) : Below w.heap.size w W' :=
  hb.trans (hf.below (fun k hk => by
    rcases hk with rfl | rfl | hk
    · exact Nat.le_trans hbase h.ge.1
    · exact Nat.le_trans hbase h.ge.2
    · exact Nat.le_trans hbase (own_ge h.own hk.symm)) hb.size)
set_option maxRecDepth 100000 in
set_option maxHeartbeats 800000 in
theorem pooled_any (e : Nat → Addr) (w : World) (h : EL w e) :
    Calls Tryd.prog 22 #[] w fun e' w' => e' = .returned (.bool true) ∧ Below w.heap.size w w' := by
  have hn := new_any w
  have HN := Lib.hid hn
  have HE := Lib.hid h
  clear hn h
  go_enter Tryd.func22, Tryd.ntmps22
  go_wp2_with fail
  (with_reducible refine HN.out.mono ?_)
  rintro e1 w1 ⟨p, v, m, rfl, his, hb1⟩
  have hp := put_any w1 w.heap.size p m v [] [120] e his (HE.out.below hb1) (by decide)
  have q1 : putC [] [120] = 0 ∧ putN [] [120] = 0 ∧ putL [] [120] = [[120]] := by decide
  unfold PutPost at hp
  rw [q1.1, q1.2.1, q1.2.2] at hp
  have HP := Lib.hid hp
  have HIS := Lib.hid his
  have HB := Lib.hid hb1
  clear hp his hb1 q1 HN
  go_wp2_with fail
  (with_reducible refine HP.out.mono ?_)
  rintro e2 w2 ⟨v2, rfl, hi2, hf2, _⟩
  have hb2 := far_pool HIS.out hf2 HB.out (Nat.le_refl _)
  have hp2 := put_any w2 w.heap.size p m v2 [[120]] [] e hi2 (HE.out.below hb2) (by decide)
  have q2 : putC [[120]] [] = 0 ∧ putN [[120]] [] = 1 ∧ putL [[120]] [] = [[120], []] := by decide
  unfold PutPost at hp2
  rw [q2.1, q2.2.1, q2.2.2] at hp2
  have HP2 := Lib.hid hp2
  have HI2 := Lib.hid hi2
  have HB2 := Lib.hid hb2
  clear hp2 hi2 hb2 hf2 q2 HP HIS HB
  simp only [errV]
  go_wp2_with fail
  (with_reducible refine HP2.out.mono ?_)
  rintro e3 w3 ⟨v3, rfl, hi3, hf3, _⟩
  have hb3 := far_pool HI2.out hf3 HB2.out (Nat.le_refl _)
  have hp3 := put_any w3 w.heap.size p m v3 [[120], []] [120] e hi3 (HE.out.below hb3) (by decide)
  have q3 : putC [[120], []] [120] = 0 ∧ putN [[120], []] [120] = 0 ∧ putL [[120], []] [120] = [[120], []] := by decide
  unfold PutPost at hp3
  rw [q3.1, q3.2.1, q3.2.2] at hp3
  have HP3 := Lib.hid hp3
  have HI3 := Lib.hid hi3
  have HB3 := Lib.hid hb3
  clear hp3 hi3 hb3 hf3 q3 HP2 HI2 HB2
  simp only [errV]
  go_wp2_with fail
  (with_reducible refine HP3.out.mono ?_)
  rintro e4 w4 ⟨v4, rfl, hi4, hf4, _⟩
  have hb4 := far_pool HI3.out hf4 HB3.out (Nat.le_refl _)
  have hl := len_any w4 w.heap.size p m v4 _ hi4
  have HL := Lib.hid hl
  have HB4 := Lib.hid hb4
  clear hi4 hb4 hf4 hl HP3 HI3 HB3
  simp only [errV]
  go_wp2_with fail
  (with_reducible refine HL.out.mono ?_)
  rintro e5 w5 ⟨rfl, rfl⟩
  go_wp2
  go_ret
  exact ⟨rfl, HB4.out⟩
end Pl
end Go.Proofs.YtmlndamkcipebaaDoor
