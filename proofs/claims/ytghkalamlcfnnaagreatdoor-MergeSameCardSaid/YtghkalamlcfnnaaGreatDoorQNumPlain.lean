/- Words that are split; numerals that are read. -/
import Derived.Test.YtghkalamlcfnnaaGreatDoorQA3
import Derived.Test.YtghkalamlcfnnaaGreatDoorQShelf
import Derived.Test.YtghkalamlcfnnaaGreatDoorQRuleText
import Derived.Lib.SplitLaws
import Derived.Lib.IndexBytes
import Derived.Shelf.Strconv.ErrVarAll
namespace Go.Proofs.YtghkalamlcfnnaaGreatDoor
open Go Go.RowKit Go.Shelf Lmd
attribute [local go_sem] Oper.semAt_some
namespace Rul
open Cand
def pieces (c : UInt8) (s : ByteArray) : List ByteArray := Lib.splitB ⟨#[c]⟩ 0 (Lib.countB s ⟨#[c]⟩) s
theorem indexB_one (s : ByteArray) (c : UInt8) : Lib.indexB s ⟨#[c]⟩ = Lib.indexByte s.data.toList c := Lib.index_one s.data.toList c
theorem pieces_miss {c : UInt8} {s : ByteArray} (h : Lib.indexByte s.data.toList c = -1) : pieces c s = [s] := Lib.splitB_miss _ _ _ _ ((indexB_one s c).trans h)
theorem pieces_hit {c : UInt8} {s : ByteArray} {i : Nat} (h : Lib.indexByte s.data.toList c = i) : pieces c s = s.extract 0 i :: pieces c (s.extract (i + 1) s.size) := by
  have h' := (indexB_one s c).trans h
  unfold pieces
  rw [Lib.countB_hit s ⟨#[c]⟩ i (Nat.le_refl 1) h', Nat.add_comm 1, Lib.splitB_hit _ _ _ _ i h']
  rfl
theorem pieces_len (c : UInt8) (s : ByteArray) : (pieces c s).length ≤ s.size + 1 := by
  have h1 : 1 ≤ (⟨#[c]⟩ : ByteArray).size := Nat.le_refl 1
  rw [pieces, Lib.splitB_all ⟨#[c]⟩ h1 _ _ _ rfl]
  have := Lib.countB_le ⟨#[c]⟩ h1 s.size s (Nat.le_refl _)
  omega
def restLen (b : Nat) (w : World) : Nat := match w.cell? ⟨b, 0, none⟩ with | some (.string s) => s.size | _ => 0
theorem restLen_of {b : Nat} {w : World} {t : TypeId} {s : ByteArray} (h : Boxed w b t (.string s)) : restLen b w = s.size := by unfold restLen; rw [h.cell]
def lbS (b : Nat) : Array Value := #[.pointer (some ⟨b + 1, 0, none⟩), .pointer (some ⟨b, 0, none⟩), .pointer (some ⟨b + 2, 0, none⟩)]
theorem boxed_stay {O : Nat → Prop} {hi : Nat} {W W' : World} {b : Nat} {t : TypeId} {v : Value} (h : Boxed W b t v) (hs : Rng.Stay O hi W W') (hO : ¬ O b) (hl : b < hi) : Boxed W' b t v := hs.same b _ h (.inr ⟨hO, hl⟩)
set_option maxRecDepth 100000 in
set_option maxHeartbeats 2000000 in
theorem split_seq (b : Nat) (s : ByteArray) (c : UInt8) (N : Nat) (w : World) (h0 : Boxed w b 9 (.string s)) (h1 : Boxed w (b + 1) 9 (.string ⟨#[c]⟩)) (h2 : Boxed w (b + 2) 3 (.int .i64 0)) (hN : s.size < N) (hsz : s.size < 4294967281) :
    Rge.Seq Tryz.prog 296 (lbS b) (fun x : ByteArray => #[.string x]) (fun r => r = b) (fun O => ¬ O b ∧ ¬ O (b + 1) ∧ ¬ O (b + 2)) (fun xs => xs = pieces c s) (fun pre => pre <+: pieces c s) N w := by
  intro O l J Jx W hW hO _ _ hJ hJx hY h00
  refine (callsIn_wide (n := Rng.dp + 1)).1 ?_
  refine callsIn_of_wp Tryz.func296 rfl trivial ?_ rfl
  simp only [Tryz.ntmps296, lbS, List.size_toArray, List.length_cons, List.length_nil, Nat.reduceAdd, Nat.reduceSub, Array.replicate_succ, Array.replicate_zero, List.push_toArray, List.append_toArray, List.nil_append, List.cons_append]
  have g0 := h0.kept (Rng.grownBy_of_below hW) (by simp)
  have g1 := h1.kept (Rng.grownBy_of_below hW) (by simp)
  have g2 := h2.kept (Rng.grownBy_of_below hW) (by simp)
  have x1 := g1.cell
  have hb2 := g2.lt
  have HJ0 := Lib.hid (h00 W (Below.refl _ _))
  have HY := Lib.hid hY
  have HJ := Lib.hid hJ
  have HJX := Lib.hid hJx
  have HO := Lib.hid hO
  clear h00 hY hJ hJx hO h0 h1 h2
  gi_wp2
  gi_loopw [] (fun wr => ∃ (pre : List ByteArray) (rest : ByteArray), pieces c s = pre ++ pieces c rest ∧ rest.size ≤ s.size ∧ pre.length + rest.size ≤ s.size ∧ Boxed wr b 9 (.string rest) ∧ Boxed wr (b + 1) 9 (.string ⟨#[c]⟩) ∧ Boxed wr (b + 2) 3 (.int .i64 0) ∧ J W.heap.size pre wr) (fun wr => restLen b wr)
  case atStart => exact ⟨[], s, rfl, Nat.le_refl _, by simp, g0, g1, g2, HJ0.out⟩
  case round =>
    obtain ⟨pre, rest, hp, hr, hl, b0, b1, b2, hj⟩ := hrel
    have y0 := b0.cell
    have y1 := b1.cell
    have y2 := b2.cell
    have z0 := b0.frozen
    have hrl := restLen_of b0
    have B0 := Lib.hid b0
    have B1 := Lib.hid b1
    have B2 := Lib.hid b2
    have HP := Lib.hid hp
    have HJ1 := Lib.hid hj
    have HR := Lib.hid hr
    have HL := Lib.hid hl
    have HRL := Lib.hid hrl
    have hidx := Tryz.strings_Index_one rest c wr
    rcases Lib.indexB_cases rest ⟨#[c]⟩ with hix | ⟨i, hix, hle⟩
    · rw [indexB_one] at hix
      rw [hix] at hidx
      have HIX := Lib.hid hix
      have HI := Lib.hid hidx
      clear b0 b1 b2 hp hj hr hl hix hidx hrl
      obtain ⟨f1, t1, a1, c1, hy1, hR1⟩ := HY.out W.heap.size pre rest _ (Nat.le_refl _) HJ1.out (by have := HL.out; omega)
      gi_wp2_with (refine ⟨trivial, ?_⟩; gi_at_call 228; refine (callsIn_wide.2 HI.out).mono ?_; rintro e' w2 ⟨rfl, rfl⟩)
      refine hR1.mono ?_
      rintro e W1 (⟨rfl, hJ1, hk1⟩ | ⟨rfl, hx1, hr1⟩)
      · gi_wp2
        go_end0
        exact ⟨⟨_, rfl⟩, W.heap.size, Nat.le_refl _, .inl ⟨pre ++ [rest], by rw [HP.out, pieces_miss HIX.out], hJ1⟩⟩
      · gi_wp2
        go_end0
        exact ⟨⟨_, rfl⟩, W.heap.size, Nat.le_refl _, .inr ⟨pre ++ [rest], by rw [HP.out, pieces_miss HIX.out]; exact List.prefix_rfl, hx1⟩⟩
    · rw [indexB_one] at hix
      rw [hix] at hidx
      have HIX := Lib.hid hix
      have HI := Lib.hid hidx
      have hle' : i + 1 ≤ rest.size := hle
      have hrs : rest.size < 4294967281 := by omega
      have HP2 := Lib.hid (hp.trans (by rw [pieces_hit HIX.out]))
      clear b0 b1 b2 hp hj hr hl hix hidx hrl hle
      obtain ⟨f1, t1, a1, c1, hy1, hR1⟩ := HY.out W.heap.size pre (rest.extract 0 i) _ (Nat.le_refl _) HJ1.out (by have := HL.out; omega)
      gi_wp2_with (refine ⟨trivial, ?_⟩; gi_at_call 228; refine (callsIn_wide.2 HI.out).mono ?_; rintro e' w2 ⟨rfl, rfl⟩)
      refine hR1.mono ?_
      rintro e W1 (⟨rfl, hJ1, hk1⟩ | ⟨rfl, hx1, hr1⟩)
      · have d0 := boxed_stay B0.out hk1 HO.out.1 (by omega)
        have d1 := boxed_stay B1.out hk1 HO.out.2.1 (by omega)
        have d2 := boxed_stay B2.out hk1 HO.out.2.2 (by omega)
        have v0 := d0.cell
        have v1 := d1.cell
        have v2 := d2.cell
        have v3 := d0.frozen
        have D0 := Lib.hid d0
        have D1 := Lib.hid d1
        have D2 := Lib.hid d2
        have HJ2 := Lib.hid hJ1
        clear d0 d1 d2 hJ1 hk1
        have hes : (rest.extract (i + 1) rest.size).size = rest.size - (i + 1) := by rw [ByteArray.size_extract]; omega
        have HES := Lib.hid hes
        clear hes
        gi_wp2
        go_roundw
        case rel =>
          refine ⟨pre ++ [rest.extract 0 i], rest.extract (i + 1) rest.size, by rw [HP2.out]; simp, by rw [HES.out]; have := HR.out; omega, by rw [HES.out]; have := HL.out; simp; omega, D0.out.set _, D1.out.other (by omega) _, D2.out.other (by omega) _, ?_⟩
          exact HJ.out W.heap.size _ W1 _ (some b) (Nat.le_refl _) HJ2.out (grownBy_setCell' W1 b _) (fun r e => by cases e; exact .inr rfl)
        case measure =>
          rw [restLen_of (D0.out.set _), HRL.out, HES.out]; omega
      · gi_wp2
        refine bodyPost_ret (results_none rfl _ _ _) rfl ?_
        exact ⟨⟨_, rfl⟩, W.heap.size, Nat.le_refl _, .inr ⟨pre ++ [rest.extract 0 i], ⟨pieces c (rest.extract (i + 1) rest.size), by rw [HP2.out]; simp⟩, hx1⟩⟩
theorem splitSeq_any (s sep : ByteArray) (w : World) :
    Calls Tryz.prog 236 #[.string s, .string sep] w fun e w' => e = .returned (.func (.func 296) #[] (lbS w.heap.size)) ∧ w' = ((w.alloc (.cells #[.string s] 9)).alloc (.cells #[.string sep] 9)).alloc (.cells #[.int .i64 0] 3) := by
  have hin : ∀ w : World, Calls Tryz.prog 267 #[.string s, .string sep, .int .i64 0] w fun e w' => e = .returned (.func (.func 296) #[] (lbS w.heap.size)) ∧ w' = ((w.alloc (.cells #[.string s] 9)).alloc (.cells #[.string sep] 9)).alloc (.cells #[.int .i64 0] 3) := by
    intro w
    go_enter Tryz.func267, Tryz.ntmps267
    go_wp2
    go_ret
    exact ⟨rfl, rfl⟩
  go_enter Tryz.func236, Tryz.ntmps236
  go_wp2_with (go_at_call 267; refine (hin _).mono ?_; rintro e' w2 ⟨rfl, rfl⟩)
  go_ret
  exact ⟨rfl, rfl⟩
end Rul
end Go.Proofs.YtghkalamlcfnnaaGreatDoor
namespace Go.Proofs.YtghkalamlcfnnaaGreatDoor
open Go Go.RowKit Lmd
namespace Rul
open Er Day
def numOk (l : List UInt8) : Bool := match Lib.atoiAll l with | .ok v => decide (l.length ≤ 9) && decide (0 ≤ v) && decide (Lib.itoa v = l) | _ => false
def numIs (l : List UInt8) : Int := match Lib.atoiAll l with | .ok v => v | _ => 0
structure ELib (w : World) : Prop where
  sy : ∃ tp p, w.var? Tryz.prog "strconv.ErrSyntax" = some #[.iface tp p]
  ra : ∃ tp p, w.var? Tryz.prog "strconv.ErrRange" = some #[.iface tp p]
theorem var_below {w w' : World} {n : String} {c : Array Value} (h : w.var? Tryz.prog n = some c) (hb : Below w.heap.size w w') : w'.var? Tryz.prog n = some c := by
  unfold World.var? at h ⊢
  cases hg : Tryz.prog.globalNamed n with
  | none => rw [hg] at h; cases h
  | some g =>
    rw [hg] at h
    simp only [Option.bind_some] at h ⊢
    cases ho : w.heap[g]? with
    | none => rw [ho] at h; cases h
    | some o =>
      rw [hb.block g (Array.getElem?_eq_some_iff.1 ho).1, ho]
      rw [ho] at h; exact h
theorem ELib.below {w w' : World} (h : ELib w) (hb : Below w.heap.size w w') : ELib w' := by
  obtain ⟨⟨t1, p1, h1⟩, ⟨t2, p2, h2⟩⟩ := h
  exact ⟨⟨t1, p1, var_below h1 hb⟩, ⟨t2, p2, var_below h2 hb⟩⟩
theorem atoi_le {l : List UInt8} {v : Int} (h : Lib.atoiAll l = .ok v) : v ≤ 9223372036854775807 := by
  unfold Lib.atoiAll at h
  split at h
  · cases h
  · dsimp only at h
    split at h
    · cases h
    · cases h
    · split at h
      · cases h
      · split at h
        · cases h
        · cases h
          rename_i h1 h2
          split <;> omega
set_option maxRecDepth 100000 in
set_option maxHeartbeats 4000000 in
theorem number_any (s : ByteArray) (w : World) (hs : s.size ≤ 1000000) (hE : ELib w) (htab : Lib.TabIs Tryz.prog w "internal/strconv.uint64pow10" .u64 Lib.pow10Tab) :
    Calls Tryz.prog 233 #[.string s] w fun e' w' => ∃ n, e' = .returned (.tuple #[.int .i64 n, .bool (numOk s.data.toList)]) ∧ (numOk s.data.toList = true → n = numIs s.data.toList) ∧ Below w.heap.size w w' := by
  rcases h : Lib.atoiAll s.data.toList with v | _ | _
  · have hq : numOk s.data.toList = (decide (s.data.toList.length ≤ 9) && decide (0 ≤ v) && decide (Lib.itoa v = s.data.toList)) := by unfold numOk; rw [h]
    have hv : numIs s.data.toList = v := by unfold numIs; rw [h]
    have hl : s.data.toList.length = s.size := by simp
    have hat : Calls Tryz.prog 187 #[.string s] w fun e w' => e = .returned (.tuple #[.int .i64 v, .nilIface]) ∧ Below w.heap.size w w' := by
      refine (Tryz.strconv_Atoi_ok s (by omega) v h w).mono ?_
      rintro e w' ⟨rfl, (rfl | ⟨t, rfl⟩)⟩
      · exact ⟨rfl, Below.refl _ _⟩
      · exact ⟨rfl, Lib.bytesWorld_below _ _ _⟩
    have HAT := Lib.hid hat
    have HTAB := Lib.hid (fun W (h : Below w.heap.size w W) => Frame.tab_below (g := 15) (by kernel_rfl) h htab)
    obtain ⟨q, hq0⟩ : ∃ q, numOk s.data.toList = q := ⟨_, rfl⟩
    rw [hq0] at hq ⊢
    rw [hv]
    have HQ := Lib.hid hq
    have HV9 := Lib.hid (atoi_le h)
    clear hat htab hE h hq0 hv hq
    by_cases h9 : s.size ≤ 9
    · by_cases h0 : 0 ≤ v
      · have hvb : v ≤ 9223372036854775807 ∨ 9223372036854775807 < v := by omega
        clear hvb
        by_cases hi : Lib.itoa v = s.data.toList
        · obtain rfl : q = true := by rw [HQ.out, hl, decide_eq_true h9, decide_eq_true h0, decide_eq_true hi]; rfl
          have HI := Lib.hid hi
          clear hi HQ hl
          have hv9 := HV9.out
          go_enter Tryz.func233, Tryz.ntmps233
          go_wp2_with (go_at_call 187; refine HAT.out.mono ?_; rintro e1 w1 ⟨rfl, hb1⟩)
          have HB1 := Lib.hid hb1
          clear hb1
          go_wp2_with fail
          refine (itoa_b v (by omega) hv9 w1 (HTAB.out w1 HB1.out)).mono ?_
          rintro e2 w2 ⟨rfl, hb2⟩
          have HB2 := Lib.hid (HB1.out.trans (hb2.mono HB1.out.size))
          clear hb2
          have hi := HI.out
          go_wp2
          go_ret2
          exact ⟨_, rfl, fun _ => rfl, HB2.out⟩
        · obtain rfl : q = false := by rw [HQ.out, decide_eq_false hi, Bool.and_false]
          have HI := Lib.hid hi
          have hv9 := HV9.out
          clear hi HQ hl
          go_enter Tryz.func233, Tryz.ntmps233
          go_wp2_with (go_at_call 187; refine HAT.out.mono ?_; rintro e1 w1 ⟨rfl, hb1⟩)
          have HB1 := Lib.hid hb1
          clear hb1
          go_wp2_with fail
          refine (itoa_b v (by omega) hv9 w1 (HTAB.out w1 HB1.out)).mono ?_
          rintro e2 w2 ⟨rfl, hb2⟩
          have HB2 := Lib.hid (HB1.out.trans (hb2.mono HB1.out.size))
          clear hb2
          have hi := HI.out
          go_wp2
          go_ret2
          have hq : (Lib.itoa v == s.toList) = false := by rw [ByteArray.toList_eq]; exact beq_false_of_ne hi
          rw [hq]
          exact ⟨_, rfl, (fun h => (by cases h)), HB2.out⟩
      · obtain rfl : q = false := by rw [HQ.out, decide_eq_false h0, Bool.and_false]; rfl
        go_enter Tryz.func233, Tryz.ntmps233
        go_wp2_with (go_at_call 187; refine HAT.out.mono ?_; rintro e1 w1 ⟨rfl, hb1⟩)
        go_ret2
        first | exact hb1 | exact ⟨⟨_, rfl⟩, hb1⟩ | exact ⟨_, rfl, hb1⟩ | exact ⟨_, rfl, (fun h => (by cases h)), hb1⟩
    · obtain rfl : q = false := by rw [HQ.out, hl, decide_eq_false h9]; rfl
      go_enter Tryz.func233, Tryz.ntmps233
      go_wp2_with (go_at_call 187; refine HAT.out.mono ?_; rintro e1 w1 ⟨rfl, hb1⟩)
      go_ret2
      first | exact hb1 | exact ⟨⟨_, rfl⟩, hb1⟩ | exact ⟨_, rfl, hb1⟩ | exact ⟨_, rfl, (fun h => (by cases h)), hb1⟩
  · have hq : numOk s.data.toList = false := by unfold numOk; rw [h]
    rw [hq]
    obtain ⟨tp, p, hv⟩ := hE.sy
    have hat : Calls Tryz.prog 187 #[.string s] w fun e w' => ∃ N, e = .returned (.tuple #[.int .i64 0, .iface 312 (.pointer (some ⟨N, 0, none⟩))]) ∧ Below w.heap.size w w' := by
      refine (Any.strconv_Atoi_syntax_var Tryz.laysC172 s (by omega) h tp p w hv).mono ?_
      rintro e w' ⟨N, rfl, _, _, hb⟩
      exact ⟨N, rfl, hb⟩
    have HAT := Lib.hid hat
    clear hat hE hv h hq htab
    go_enter Tryz.func233, Tryz.ntmps233
    go_wp2_with (go_at_call 187; refine HAT.out.mono ?_; rintro e1 w1 ⟨N, rfl, hb1⟩)
    go_ret2
    first | exact hb1 | exact ⟨⟨_, rfl⟩, hb1⟩ | exact ⟨_, rfl, hb1⟩ | exact ⟨_, rfl, (fun h => (by cases h)), hb1⟩
  · have hq : numOk s.data.toList = false := by unfold numOk; rw [h]
    rw [hq]
    obtain ⟨tp, p, hv⟩ := hE.ra
    have hat : Calls Tryz.prog 187 #[.string s] w fun e w' => ∃ N n, e = .returned (.tuple #[.int .i64 n, .iface 312 (.pointer (some ⟨N, 0, none⟩))]) ∧ Below w.heap.size w w' := by
      refine (Any.strconv_Atoi_range_var Tryz.laysC172 s (by omega) h tp p w hv).mono ?_
      rintro e w' ⟨N, rfl, _, _, hb⟩
      exact ⟨N, _, rfl, hb⟩
    have HAT := Lib.hid hat
    clear hat hE hv h hq htab
    go_enter Tryz.func233, Tryz.ntmps233
    go_wp2_with (go_at_call 187; refine HAT.out.mono ?_; rintro e1 w1 ⟨N, n, rfl, hb1⟩)
    go_ret2
    first | exact hb1 | exact ⟨⟨_, rfl⟩, hb1⟩ | exact ⟨_, rfl, hb1⟩ | exact ⟨_, rfl, (fun h => (by cases h)), hb1⟩
end Rul
end Go.Proofs.YtghkalamlcfnnaaGreatDoor
namespace Go.Proofs.YtghkalamlcfnnaaGreatDoor
open Go Go.RowKit Go.Shelf Lmd
namespace Rul
open Er Day Cand
theorem ix_none {c : UInt8} : ∀ {l : List UInt8}, c ∉ l → Lib.indexByte l c = -1
  | [], _ => rfl
  | b :: l, h => by
    have h1 : ¬ b = c := fun e => h (by simp [e])
    have h2 := ix_none (l := l) (fun e => h (List.mem_cons_of_mem _ e))
    simp [Lib.indexByte, h1, h2]
theorem ix_some {c : UInt8} {r : List UInt8} : ∀ {a : List UInt8}, c ∉ a → Lib.indexByte (a ++ c :: r) c = (a.length : Int)
  | [], _ => by simp [Lib.indexByte]
  | b :: a, h => by
    have h1 : ¬ b = c := fun e => h (by simp [e])
    have h2 := ix_some (r := r) (a := a) (fun e => h (List.mem_cons_of_mem _ e))
    have h3 : ¬ ((a.length : Int) = -1) := by omega
    simp [Lib.indexByte, h1, h2, h3]
abbrev mk (l : List UInt8) : ByteArray := ⟨l.toArray⟩
theorem mk_of {s : ByteArray} {l : List UInt8} (h : s.data.toList = l) : s = mk l := by rw [str_mk s, h]
theorem mk_inj {a b : List UInt8} (h : mk a = mk b) : a = b := by simpa [mk] using h
theorem pieces_last {c : UInt8} {l : List UInt8} (h : c ∉ l) : pieces c (mk l) = [mk l] := pieces_miss (ix_none h)
theorem pieces_more {c : UInt8} {a r : List UInt8} (h : c ∉ a) : pieces c (mk (a ++ c :: r)) = mk a :: pieces c (mk r) := by
  have hz : (mk (a ++ c :: r)).size = a.length + 1 + r.length := by simp [ByteArray.size]; omega
  rw [pieces_hit (ix_some (r := r) h)]
  have e1 : (mk (a ++ c :: r)).extract 0 a.length = mk a := mk_of (by rw [ext_take]; simp)
  have e2 : (mk (a ++ c :: r)).extract (a.length + 1) (mk (a ++ c :: r)).size = mk r := mk_of (by
    rw [ext_mid, hz]
    have : a.length + 1 + r.length - (a.length + 1) = r.length := by omega
    rw [this]
    simp)
  rw [e1, e2]
theorem pieces_join {c : UInt8} : ∀ {x : List UInt8} {xs : List (List UInt8)}, (∀ y ∈ x :: xs, c ∉ y) → pieces c (mk (Lib.join (x :: xs) [c])) = (x :: xs).map mk
  | x, [], h => by
    have : Lib.join [x] [c] = x := by simp [Lib.join]
    rw [this, pieces_last (h x (by simp))]; rfl
  | x, y :: ys, h => by
    have : Lib.join (x :: y :: ys) [c] = x ++ c :: Lib.join (y :: ys) [c] := by unfold Lib.join; rw [List.intercalate_cons_cons]; simp
    rw [this, pieces_more (h x (by simp)), pieces_join (fun z hz => h z (by simp at hz ⊢; exact .inr hz))]
    rfl
theorem dec_len_le : ∀ (k u : Nat), u < 10 ^ (k + 1) → (Lib.decDigits u).length ≤ k + 1
  | 0, u, h => by
    unfold Lib.decDigits
    rw [dif_pos (by omega)]; simp
  | k + 1, u, h => by
    unfold Lib.decDigits
    split
    · simp
    · have := dec_len_le k (u / 10) (by rw [Nat.pow_succ] at h; omega)
      simp; omega
theorem dec_dig (u : Nat) : ∀ c ∈ Lib.decDigits u, 48 ≤ c.toNat ∧ c.toNat ≤ 57 := by
  induction u using Nat.strongRecOn with
  | ind u ih =>
    intro c hc
    unfold Lib.decDigits at hc
    split at hc
    · rw [List.mem_singleton] at hc; subst hc
      rw [UInt8.toNat_ofNat']; omega
    · rw [List.mem_append] at hc
      rcases hc with hc | hc
      · exact ih (u / 10) (by omega) c hc
      · rw [List.mem_singleton] at hc; subst hc
        rw [UInt8.toNat_ofNat']; omega
theorem parse_snoc (c : UInt8) (hc : 48 ≤ c.toNat ∧ c.toNat ≤ 57) : ∀ (l : List UInt8) (acc v : Nat), Lib.parseUint10 acc l = .ok v → v < 1000000000 → Lib.parseUint10 acc (l ++ [c]) = .ok (v * 10 + (c.toNat - 48))
  | [], acc, v, h, hv => by
    simp only [Lib.parseUint10] at h
    cases h
    simp only [List.nil_append, Lib.parseUint10]
    rw [if_pos hc, if_neg (by omega), if_neg (by omega)]
  | b :: l, acc, v, h, hv => by
    simp only [List.cons_append, Lib.parseUint10] at h ⊢
    split
    · rename_i h1
      rw [if_pos h1] at h
      split
      · rename_i h2; rw [if_pos h2] at h; cases h
      · rename_i h2; rw [if_neg h2] at h
        split
        · rename_i h3; rw [if_pos h3] at h; cases h
        · rename_i h3; rw [if_neg h3] at h
          exact parse_snoc c hc l _ v h hv
    · rename_i h1; rw [if_neg h1] at h; cases h
theorem parse_dec (u : Nat) (hu : u < 1000000000) : Lib.parseUint10 0 (Lib.decDigits u) = .ok u := by
  induction u using Nat.strongRecOn with
  | ind u ih =>
    unfold Lib.decDigits
    split
    · rename_i h
      have : (UInt8.ofNat (48 + u)).toNat = 48 + u := by rw [UInt8.toNat_ofNat']; omega
      simp only [Lib.parseUint10, this]
      rw [if_pos (by omega), if_neg (by omega), if_neg (by omega)]
      simp
    · have hd : (UInt8.ofNat (48 + u % 10)).toNat = 48 + u % 10 := by rw [UInt8.toNat_ofNat']; omega
      rw [parse_snoc _ (by rw [hd]; omega) _ _ _ (ih (u / 10) (by omega) (by omega)) (by omega), hd]
      congr 1; omega
theorem dec_ne (u : Nat) : Lib.decDigits u ≠ [] := by
  unfold Lib.decDigits
  split <;> simp
theorem num_back (n : Int) (h0 : 0 ≤ n) (h1 : n < 1000000000) : numOk (Lib.itoa n) = true ∧ numIs (Lib.itoa n) = n := by
  obtain ⟨u, rfl⟩ : ∃ u : Nat, n = (u : Int) := ⟨n.toNat, by omega⟩
  have hu : u < 1000000000 := by omega
  have ha : Lib.atoiAll (Lib.itoa u) = .ok (u : Int) := by
    rw [Lib.itoa_nonneg]
    have hp := parse_dec u hu
    have hd := dec_dig u
    cases hl : Lib.decDigits u with
    | nil => exact absurd hl (dec_ne u)
    | cons c r =>
      rw [hl] at hp hd
      have hc := hd c (by simp)
      unfold Lib.atoiAll
      simp only
      rw [if_neg (by omega)]
      simp only [Lib.parseMag, hp]
      rw [if_neg (by simp)]
      simp only
      rw [if_neg (by omega), if_neg (by omega), if_neg (by omega)]
  have hlen := dec_len_le 8 u (by omega)
  rw [← Lib.itoa_nonneg] at hlen
  unfold numOk numIs
  rw [ha]
  simp; omega
theorem itoa_free {n : Int} {c : UInt8} (h0 : 0 ≤ n) (hc : ¬ (48 ≤ c.toNat ∧ c.toNat ≤ 57)) : c ∉ Lib.itoa n := by
  obtain ⟨u, rfl⟩ : ∃ u : Nat, n = (u : Int) := ⟨n.toNat, by omega⟩
  rw [Lib.itoa_nonneg]
  exact fun h => hc (dec_dig u c h)
end Rul
end Go.Proofs.YtghkalamlcfnnaaGreatDoor
