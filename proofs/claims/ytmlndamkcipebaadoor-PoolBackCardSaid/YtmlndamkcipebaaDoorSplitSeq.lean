/- strings.SplitSeq at a separator of one byte: what its iterator gives. -/
import Derived.Test.YtmlndamkcipebaaDoorRangeE
import Derived.Test.YtmlndamkcipebaaDoorShelf
import Derived.Test.YtmlndamkcipebaaDoorGen
import Derived.Lib.SplitLaws
import Derived.Lib.IndexBytes
namespace Go.Proofs.YtmlndamkcipebaaDoor
open Go Go.RowKit Go.Shelf Lmd
attribute [local go_sem] Oper.semAt_some
namespace Rul
open Cand

/-- the pieces of a text -/
def pieces (c : UInt8) (s : ByteArray) : List ByteArray := Lib.splitB ⟨#[c]⟩ 0 (Lib.countB s ⟨#[c]⟩) s
theorem indexB_one (s : ByteArray) (c : UInt8) : Lib.indexB s ⟨#[c]⟩ = Lib.indexByte s.data.toList c := Lib.index_one s.data.toList c
theorem pieces_miss {c : UInt8} {s : ByteArray} (h : Lib.indexByte s.data.toList c = -1) : pieces c s = [s] := Lib.splitB_miss _ _ _ _ ((indexB_one s c).trans h)
theorem pieces_hit {c : UInt8} {s : ByteArray} {i : Nat} (h : Lib.indexByte s.data.toList c = i) : pieces c s = s.extract 0 i :: pieces c (s.extract (i + 1) s.size) := by
  have h' := (indexB_one s c).trans h
  unfold pieces
  rw [Lib.countB_hit s ⟨#[c]⟩ i (Nat.le_refl 1) h', Nat.add_comm 1, Lib.splitB_hit _ _ _ _ i h']
  rfl
theorem pieces_len (c : UInt8) (s : ByteArray) : (pieces c s).length ≤ s.size + 1 := by
  have h1 : 1 ≤ (⟨#[c]⟩ : ByteArray).size := Nat.le_refl 1
  rw [pieces, Lib.splitB_all ⟨#[c]⟩ h1 _ _ _ rfl]
  have := Lib.countB_le ⟨#[c]⟩ h1 s.size s (Nat.le_refl _)
  omega

/-- the rest's length, read off the world -/
def restLen (b : Nat) (w : World) : Nat := match w.cell? ⟨b, 0, none⟩ with | some (.string s) => s.size | _ => 0
theorem restLen_of {b : Nat} {w : World} {t : TypeId} {s : ByteArray} (h : Boxed w b t (.string s)) : restLen b w = s.size := by unfold restLen; rw [h.cell]
def lbS (b : Nat) : Array Value := #[.pointer (some ⟨b + 1, 0, none⟩), .pointer (some ⟨b, 0, none⟩), .pointer (some ⟨b + 2, 0, none⟩)]
theorem boxed_stay {O : Nat → Prop} {hi : Nat} {W W' : World} {b : Nat} {t : TypeId} {v : Value} (h : Boxed W b t v) (hs : Rng.Stay O hi W W') (hO : ¬ O b) (hl : b < hi) : Boxed W' b t v := hs.same b _ h (.inr ⟨hO, hl⟩)

set_option maxRecDepth 100000 in
set_option maxHeartbeats 2000000 in
theorem split_seq (b : Nat) (s : ByteArray) (c : UInt8) (N : Nat) (w : World) (h0 : Boxed w b 9 (.string s)) (h1 : Boxed w (b + 1) 9 (.string ⟨#[c]⟩)) (h2 : Boxed w (b + 2) 3 (.int .i64 0)) (hN : s.size < N) (hsz : s.size < 4294967281) :
    Rge.Seq Tryd.prog 142 (lbS b) (fun x : ByteArray => #[.string x]) (fun r => r = b) (fun O => ¬ O b ∧ ¬ O (b + 1) ∧ ¬ O (b + 2)) (fun xs => xs = pieces c s) (fun pre => pre <+: pieces c s) N w := by
  intro O l J Jx W hW hO _ _ hJ hJx hY h00
  refine (callsIn_wide (n := Rng.dp + 1)).1 ?_
  refine callsIn_of_wp Tryd.func142 rfl trivial ?_ rfl
  simp only [Tryd.ntmps142, lbS, List.size_toArray, List.length_cons, List.length_nil, Nat.reduceAdd, Nat.reduceSub, Array.replicate_succ, Array.replicate_zero, List.push_toArray, List.append_toArray, List.nil_append, List.cons_append]
  have g0 := h0.kept (Rng.grownBy_of_below hW) (by simp)
  have g1 := h1.kept (Rng.grownBy_of_below hW) (by simp)
  have g2 := h2.kept (Rng.grownBy_of_below hW) (by simp)
  have x1 := g1.cell
  have hb2 := g2.lt
  have HJ0 := Lib.hid (h00 W (Below.refl _ _))
  have HY := Lib.hid hY
  have HJ := Lib.hid hJ
  have HJX := Lib.hid hJx
  have HO := Lib.hid hO
  clear h00 hY hJ hJx hO h0 h1 h2
  gi_wp2
  gi_loopw [] (fun wr => ∃ (pre : List ByteArray) (rest : ByteArray), pieces c s = pre ++ pieces c rest ∧ rest.size ≤ s.size ∧ pre.length + rest.size ≤ s.size ∧ Boxed wr b 9 (.string rest) ∧ Boxed wr (b + 1) 9 (.string ⟨#[c]⟩) ∧ Boxed wr (b + 2) 3 (.int .i64 0) ∧ J W.heap.size pre wr) (fun wr => restLen b wr)
  case atStart => exact ⟨[], s, rfl, Nat.le_refl _, by simp, g0, g1, g2, HJ0.out⟩
  case round =>
    obtain ⟨pre, rest, hp, hr, hl, b0, b1, b2, hj⟩ := hrel
    have y0 := b0.cell
    have y1 := b1.cell
    have y2 := b2.cell
    have z0 := b0.frozen
    have hrl := restLen_of b0
    have B0 := Lib.hid b0
    have B1 := Lib.hid b1
    have B2 := Lib.hid b2
    have HP := Lib.hid hp
    have HJ1 := Lib.hid hj
    have HR := Lib.hid hr
    have HL := Lib.hid hl
    have HRL := Lib.hid hrl
    have hidx := Tryd.strings_Index_one rest c wr
    rcases Lib.indexB_cases rest ⟨#[c]⟩ with hix | ⟨i, hix, hle⟩
    · rw [indexB_one] at hix
      rw [hix] at hidx
      have HIX := Lib.hid hix
      have HI := Lib.hid hidx
      clear b0 b1 b2 hp hj hr hl hix hidx hrl
      obtain ⟨f1, t1, a1, c1, hy1, hR1⟩ := HY.out W.heap.size pre rest _ (Nat.le_refl _) HJ1.out (by have := HL.out; omega)
      gi_wp2_with (refine ⟨trivial, ?_⟩; gi_at_call 112; refine (callsIn_wide.2 HI.out).mono ?_; rintro e' w2 ⟨rfl, rfl⟩)
      refine hR1.mono ?_
      rintro e W1 (⟨rfl, hJ1, hk1⟩ | ⟨rfl, hx1, hr1⟩)
      · gi_wp2
        go_end0
        exact ⟨⟨_, rfl⟩, W.heap.size, Nat.le_refl _, .inl ⟨pre ++ [rest], by rw [HP.out, pieces_miss HIX.out], hJ1⟩⟩
      · gi_wp2
        go_end0
        exact ⟨⟨_, rfl⟩, W.heap.size, Nat.le_refl _, .inr ⟨pre ++ [rest], by rw [HP.out, pieces_miss HIX.out]; exact List.prefix_rfl, hx1⟩⟩
    · rw [indexB_one] at hix
      rw [hix] at hidx
      have HIX := Lib.hid hix
      have HI := Lib.hid hidx
      have hle' : i + 1 ≤ rest.size := hle
      have hrs : rest.size < 4294967281 := by omega
      have HP2 := Lib.hid (hp.trans (by rw [pieces_hit HIX.out]))
      clear b0 b1 b2 hp hj hr hl hix hidx hrl hle
      obtain ⟨f1, t1, a1, c1, hy1, hR1⟩ := HY.out W.heap.size pre (rest.extract 0 i) _ (Nat.le_refl _) HJ1.out (by have := HL.out; omega)
      gi_wp2_with (refine ⟨trivial, ?_⟩; gi_at_call 112; refine (callsIn_wide.2 HI.out).mono ?_; rintro e' w2 ⟨rfl, rfl⟩)
      refine hR1.mono ?_
      rintro e W1 (⟨rfl, hJ1, hk1⟩ | ⟨rfl, hx1, hr1⟩)
      · have d0 := boxed_stay B0.out hk1 HO.out.1 (by omega)
        have d1 := boxed_stay B1.out hk1 HO.out.2.1 (by omega)
        have d2 := boxed_stay B2.out hk1 HO.out.2.2 (by omega)
        have v0 := d0.cell
        have v1 := d1.cell
        have v2 := d2.cell
        have v3 := d0.frozen
        have D0 := Lib.hid d0
        have D1 := Lib.hid d1
        have D2 := Lib.hid d2
        have HJ2 := Lib.hid hJ1
        clear d0 d1 d2 hJ1 hk1
        have hes : (rest.extract (i + 1) rest.size).size = rest.size - (i + 1) := by rw [ByteArray.size_extract]; omega
        have HES := Lib.hid hes
        clear hes
        gi_wp2
        go_roundw
        case rel =>
          refine ⟨pre ++ [rest.extract 0 i], rest.extract (i + 1) rest.size, by rw [HP2.out]; simp, by rw [HES.out]; have := HR.out; omega, by rw [HES.out]; have := HL.out; simp; omega, D0.out.set _, D1.out.other (by omega) _, D2.out.other (by omega) _, ?_⟩
          exact HJ.out W.heap.size _ W1 _ (some b) (Nat.le_refl _) HJ2.out (grownBy_setCell' W1 b _) (fun r e => by cases e; exact .inr rfl)
        case measure =>
          rw [restLen_of (D0.out.set _), HRL.out, HES.out]; omega
      · gi_wp2
        refine bodyPost_ret (results_none rfl _ _ _) rfl ?_
        exact ⟨⟨_, rfl⟩, W.heap.size, Nat.le_refl _, .inr ⟨pre ++ [rest.extract 0 i], ⟨pieces c (rest.extract (i + 1) rest.size), by rw [HP2.out]; simp⟩, hx1⟩⟩

theorem splitSeq_any (s sep : ByteArray) (w : World) :
    Calls Tryd.prog 99 #[.string s, .string sep] w fun e w' => e = .returned (.func (.func 142) #[] (lbS w.heap.size)) ∧ w' = ((w.alloc (.cells #[.string s] 9)).alloc (.cells #[.string sep] 9)).alloc (.cells #[.int .i64 0] 3) := by
  have hin : ∀ w : World, Calls Tryd.prog 115 #[.string s, .string sep, .int .i64 0] w fun e w' => e = .returned (.func (.func 142) #[] (lbS w.heap.size)) ∧ w' = ((w.alloc (.cells #[.string s] 9)).alloc (.cells #[.string sep] 9)).alloc (.cells #[.int .i64 0] 3) := by
    intro w
    go_enter Tryd.func115, Tryd.ntmps115
    go_wp2
    go_ret
    exact ⟨rfl, rfl⟩
  go_enter Tryd.func99, Tryd.ntmps99
  go_wp2_with (go_at_call 115; refine (hin _).mono ?_; rintro e' w2 ⟨rfl, rfl⟩)
  go_ret
  exact ⟨rfl, rfl⟩
end Rul
end Go.Proofs.YtmlndamkcipebaaDoor
