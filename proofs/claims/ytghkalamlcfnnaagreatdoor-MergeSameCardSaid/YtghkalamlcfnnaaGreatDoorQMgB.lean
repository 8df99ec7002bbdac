/- package merge: pick; slices.Concat, at numbers and texts. -/
import Derived.Test.YtghkalamlcfnnaaGreatDoorQMgM
import Derived.Lib.AppendZeros
section
namespace Go.Proofs.YtghkalamlcfnnaaGreatDoor
open Go Go.RowKit Go.Shelf Lmd
attribute [local go_sem] Oper.semAt_some
namespace Mg
open Evt Bk Df Rul Day Cand Er Tp
theorem pickS_any (x y z : ByteArray) (w : World) : Calls Tryz.prog 80 #[.string x, .string y, .string z] w fun r w' => r = .returned (.tuple #[.string (pickG x y z).1, .bool (pickG x y z).2]) ∧ w' = w := by
  unfold pickG
  by_cases h1 : y = z
  · subst h1
    have b1 : (y.toList == y.toList) = true := beq_self_eq_true _
    rw [if_pos (.inl rfl)]
    go_enter Tryz.func80, Tryz.ntmps80
    go_wp2
    go_ret2
    exact ⟨rfl, rfl⟩
  · have b1 : (y.toList == z.toList) = false := Tx.ba_ne h1
    by_cases h2 : z = x
    · have b2 : (z.toList == x.toList) = true := by rw [h2]; exact beq_self_eq_true _
      rw [if_pos (.inr h2)]
      clear h1 h2
      go_enter Tryz.func80, Tryz.ntmps80
      go_wp2
      go_ret2
      exact ⟨rfl, rfl⟩
    · have b2 : (z.toList == x.toList) = false := Tx.ba_ne h2
      rw [if_neg (fun h => h.elim h1 h2)]
      by_cases h3 : y = x
      · have b3 : (y.toList == x.toList) = true := by rw [h3]; exact beq_self_eq_true _
        rw [if_pos h3]
        clear h1 h2 h3
        go_enter Tryz.func80, Tryz.ntmps80
        go_wp2
        go_ret2
        exact ⟨rfl, rfl⟩
      · have b3 : (y.toList == x.toList) = false := Tx.ba_ne h3
        rw [if_neg h3]
        clear h1 h2 h3
        go_enter Tryz.func80, Tryz.ntmps80
        go_wp2
        go_ret2
        exact ⟨rfl, rfl⟩
theorem pickB_any (x y z : Bool) (w : World) : Calls Tryz.prog 238 #[.bool x, .bool y, .bool z] w fun r w' => r = .returned (.tuple #[.bool (pickG x y z).1, .bool (pickG x y z).2]) ∧ w' = w := by
  cases x <;> cases y <;> cases z <;> (
    go_enter Tryz.func238, Tryz.ntmps238
    go_wp2
    go_ret2
    exact ⟨by first | rfl | simp [pickG], rfl⟩)
theorem pickI_any (x y z : Int) (w : World) : Calls Tryz.prog 244 #[.int .i64 x, .int .i64 y, .int .i64 z] w fun r w' => r = .returned (.tuple #[.int .i64 (pickG x y z).1, .bool (pickG x y z).2]) ∧ w' = w := by
  unfold pickG
  by_cases h1 : y = z
  · subst h1
    have b1 : (y == y) = true := beq_self_eq_true _
    rw [if_pos (.inl rfl)]
    go_enter Tryz.func244, Tryz.ntmps244
    go_wp2
    go_ret2
    exact ⟨rfl, rfl⟩
  · have b1 : (y == z) = false := beq_eq_false_iff_ne.2 h1
    by_cases h2 : z = x
    · have b2 : (z == x) = true := by rw [h2]; exact beq_self_eq_true _
      rw [if_pos (.inr h2)]
      subst h2
      go_enter Tryz.func244, Tryz.ntmps244
      go_wp2
      go_ret2
      exact ⟨rfl, rfl⟩
    · have b2 : (z == x) = false := beq_eq_false_iff_ne.2 h2
      rw [if_neg (fun h => h.elim h1 h2)]
      by_cases h3 : y = x
      · have b3 : (y == x) = true := by rw [h3]; exact beq_self_eq_true _
        rw [if_pos h3]
        go_enter Tryz.func244, Tryz.ntmps244
        go_wp2
        go_ret2
        exact ⟨rfl, rfl⟩
      · have b3 : (y == x) = false := beq_eq_false_iff_ne.2 h3
        rw [if_neg h3]
        go_enter Tryz.func244, Tryz.ntmps244
        go_wp2
        go_ret2
        exact ⟨rfl, rfl⟩
structure Sc where
  v : Value
  n : Nat
  l : List Value
instance : Inhabited Sc := ⟨⟨.slice none 0 0, 0, []⟩⟩
def ScOk (w : World) (s : Sc) : Prop :=
  (s.n = 0 ∧ s.l = [] ∧ ∃ c, s.v = .slice none 0 c) ∨ ∃ ad c, s.v = .slice (some ad) s.n c ∧ s.l.length = s.n ∧ (∀ j u, s.l[j]? = some u → w.cell? (ad.add j) = some u) ∧ ∀ u ∈ s.l, u.oneCell' = true
theorem ScOk.shape {w : World} {s : Sc} (h : ScOk w s) : ∃ a c, s.v = .slice a s.n c := by
  rcases h with ⟨h1, _, c, h2⟩ | ⟨ad, c, h, _⟩
  · exact ⟨none, c, by rw [h2, h1]⟩
  · exact ⟨_, c, h⟩
theorem ScOk.len {w : World} {s : Sc} (h : ScOk w s) : s.l.length = s.n := by
  rcases h with ⟨h1, h2, _⟩ | ⟨ad, c, _, h, _⟩
  · rw [h1, h2]; rfl
  · exact h
theorem ScOk.below {w w' : World} {s : Sc} (h : ScOk w s) (hb : Below w.heap.size w w') : ScOk w' s := by
  rcases h with h | ⟨ad, c, h1, h2, h3, h4⟩
  · exact .inl h
  · exact .inr ⟨ad, c, h1, h2, fun j u hu => cell_later hb (h3 j u hu), h4⟩
def sc (xs : List Sc) (k : Nat) : Sc := xs[k]?.getD default
theorem sc_lt {xs : List Sc} {k : Nat} (h : k < xs.length) : sc xs k = xs[k] := by simp [sc, h]
def scN (xs : List Sc) : Nat := (xs.map (·.n)).sum
def scL (xs : List Sc) : List Value := xs.flatMap (·.l)
theorem scN_take {xs : List Sc} {k : Nat} (h : k < xs.length) : scN (xs.take (k + 1)) = scN (xs.take k) + (sc xs k).n := by
  rw [List.take_succ_eq_append_getElem h, sc_lt h]
  unfold scN
  rw [List.map_append, List.sum_append]
  simp only [List.map_cons, List.map_nil, List.sum_cons, List.sum_nil, Nat.add_zero]
theorem scL_take {xs : List Sc} {k : Nat} (h : k < xs.length) : scL (xs.take (k + 1)) = scL (xs.take k) ++ (sc xs k).l := by
  rw [List.take_succ_eq_append_getElem h, sc_lt h]
  unfold scL
  rw [List.flatMap_append]
  simp only [List.flatMap_cons, List.flatMap_nil, List.append_nil]
theorem scN_le {xs : List Sc} (hn : ∀ s ∈ xs, s.n ≤ 100000) (k : Nat) : scN (xs.take k) ≤ k * 100000 := by
  induction k with
  | zero => simp [scN]
  | succ k ih =>
    by_cases h : k < xs.length
    · rw [scN_take h, sc_lt h]
      have := hn _ (List.getElem_mem h)
      omega
    · have e : xs.take (k + 1) = xs.take k := by rw [List.take_of_length_le (show xs.length ≤ k + 1 by omega), List.take_of_length_le (show xs.length ≤ k by omega)]
      rw [e]; exact Nat.le_trans ih (Nat.mul_le_mul_right _ (Nat.le_succ k))
theorem append_sc {w : World} {ops : Array Oper} {rest : List Oper} {o : Oper} {a : Act} {Q : Exit → Act → World → Prop} (hgd : o.guard = none) (s x : Operand) {T TS : TypeId} {i : TypeInfo} {z : Value} {bytes : Nat}
    (ht : Tryz.prog.underlying TS = some (.slice T)) (hi : Tryz.prog.info? T = some i) (hz : i.zero = some z) (hsize : i.size = 1) (hby : i.bytes = bytes) (hzs : z.cells.size = 1) (hbb : bytes ≤ 16)
    (ho : o.op = .call { callee := .builtin .append, args := #[s, x], argTypes := #[TS, TS] })
    (base : Nat) (v : Value) (n : Nat) (xs : List Value) (hs : a.eval s = v) (hown : w.ownsRow base T 1 v n xs) (y : Sc) (hx : a.eval x = y.v) (hy : ScOk w y) (hb : n + y.n ≤ 3000000) (hbase : base ≤ w.heap.size)
    (h : ∀ v' w', w'.ownsRow base T 1 v' (n + y.n) (xs ++ y.l) → Below base w w' → wpList Tryz.prog ops Q rest (a.put o.dst v') w') : wpList Tryz.prog ops Q (o :: rest) a w := by
  rcases hy with ⟨h1, h2, c, h3⟩ | ⟨ad, c, h1, h2, h3, h4⟩
  · rw [h3] at hx
    have hv := h v w (by rw [h1, h2, Nat.add_zero, List.append_nil]; exact hown) (Below.refl base w)
    refine Lib.wpList_append_run w hgd s x TS TS ho v (.slice none 0 c) hs hx v w ?_ hv
    rcases hown.2 with ⟨rfl, rfl⟩ | ⟨g, cap, cur, rfl, _, _, hnc, _⟩
    · simp [Builtin.append_, run_underlying ht, sizeOf, typeInfo, hi, Builtin.lenOf, Builtin.firstCells]
    · simp [Builtin.append_, run_underlying ht, sizeOf, typeInfo, hi, Builtin.lenOf, Builtin.firstCells, hnc, storeCells]
  · rw [h1] at hx
    refine wpList_append_own _ hgd s x TS ho base T i z 1 bytes ht hi hz hsize hby hzs (by omega) v n xs hs hown ad y.n c y.l hx (by rw [h2, Nat.mul_one]) (fun j u hu => ?_) h4 (by simp only [maxLen]; omega) ?_ hbase ?_
    · exact h3 j u hu
    · have : (n + y.n) * bytes ≤ 3000000 * 16 := Nat.mul_le_mul hb hbb
      omega
    · intro v' w' h5 h6 _
      exact h v' w' h5 ((Below.refl base w).grown h6 hbase (fun j ej => Evt.own_ge hown ej))
set_option maxRecDepth 100000 in
set_option maxHeartbeats 4000000 in
theorem growI_any (n : Nat) (w : World) (hn : n ≤ 3000000) :
    Calls Tryz.prog 268 #[.slice none 0 0, .int .i64 n] w fun r w' => ∃ v, r = .returned v ∧ w'.ownsRow w.heap.size 3 1 v 0 [] ∧ Below w.heap.size w w' := by
  obtain ⟨i0, hi0, hz0, hz1, hz2⟩ := info_parts int_info
  by_cases h0 : n = 0
  · subst h0
    go_enter Tryz.func268, Tryz.ntmps268
    go_wp2
    go_ret
    exact ⟨_, rfl, World.ownsRow_nil _ _ _ _, Below.refl _ _⟩
  · have i1 : ¬ (n : Int) < 0 := by omega
    have i2 : (0 : Int) < (n : Int) := by omega
    have hpos : 0 < n := by omega
    have hr := Lib.run_append_nil_zeros (P := Tryz.prog) w 35 3 35 3 i0 (.int .i64 0) .i64 .i64 Tryz.underlying35 Tryz.underlying3 hi0 hz0 n hpos (by rw [hz1]; omega) (by omega) (by rw [hz2]; omega)
    obtain ⟨C, hC⟩ : ∃ C, grownCap w n 0 3 = C := ⟨_, rfl⟩
    have hc1 : n ≤ C := by rw [← hC]; exact grownCap_ge _ _ _ _
    have hc2 : C ≤ maxLen := by rw [← hC]; exact grownCap_le_maxLen _ _ _ _ (by simp only [maxLen]; omega)
    rw [hC] at hr
    obtain ⟨X, hX⟩ : ∃ X, Builtin.zeroCells (Value.cells (.int .i64 0)) n ++ Builtin.zeroCells (Value.cells (.int .i64 0)) (C - n) = X := ⟨_, rfl⟩
    have hxs : X.size = C * 1 := by rw [← hX, Array.size_append, size_zeroCells, size_zeroCells]; show n * 1 + (C - n) * 1 = C * 1; omega
    rw [hX] at hr
    have HR := Lib.hid hr
    have HX := Lib.hid hxs
    have HC2 := Lib.hid hc2
    have HB := Lib.hid ((show Below w.heap.size w w.drew from Tp.below_drew (Below.refl _ w)).alloc (Nat.le_refl _) (.cells X 3))
    clear hr hxs hX hC hc2 h0
    go_enter Tryz.func268, Tryz.ntmps268
    go_wp2_with (
      at_builtin
      refine Lib.wpList_append_run _ rfl (.tmp 20) (.tmp 21) _ _ rfl _ _ rfl rfl _ _ HR.out ?_)
    go_ret
    exact ⟨_, rfl, World.ownsRow_made w.drew X C (Nat.le_refl _) HC2.out HX.out, HB.out⟩
set_option maxRecDepth 100000 in
set_option maxHeartbeats 4000000 in
theorem concatI_any (xs : List Sc) (g c0 : Nat) (w : World) (hlen : xs.length ≤ 20) (hg : ∀ k, k < xs.length → w.cell? ⟨g, k, none⟩ = some (sc xs k).v) (hs : ∀ s ∈ xs, ScOk w s) (hn : ∀ s ∈ xs, s.n ≤ 100000) :
    Calls Tryz.prog 237 #[.slice (some ⟨g, 0, none⟩) xs.length c0] w fun r w' => ∃ v, r = .returned v ∧ w'.ownsRow w.heap.size 3 1 v (scN xs) (scL xs) ∧ Below w.heap.size w w' := by
  obtain ⟨i0, hi0, hz0, hz1, hz2⟩ := info_parts int_info
  have hall : scN xs ≤ 3000000 := by
    have := scN_le hn xs.length
    rw [List.take_length] at this
    omega
  have HG := Lib.hid (fun n w h => growI_any n w h)
  obtain ⟨m, hm⟩ : ∃ m, xs.length = m := ⟨_, rfl⟩
  rw [hm] at hlen hg ⊢
  have HM := Lib.hid hm
  have HCELL := Lib.hid hg
  have HS := Lib.hid hs
  have HN := Lib.hid hn
  have HALL := Lib.hid hall
  clear hm hg hs hn hall
  go_enter Tryz.func237, Tryz.ntmps237
  go_wp2_with fail
  go_loopw [3, 5, 11] (fun s _ i wr => ∃ k : Nat, k ≤ m ∧ i = .int .i64 (k : Int) ∧ s = .int .i64 (scN (xs.take k) : Nat) ∧ wr = w) (fun _ _ i _ => m - (intOf i).toNat)
  case atStart => exact ⟨0, Nat.zero_le _, rfl, rfl, rfl⟩
  case round =>
    obtain ⟨k, hk, rfl, rfl, rfl⟩ := hrel
    have hle := scN_le HN.out k
    obtain ⟨S, hS⟩ : ∃ S, scN (xs.take k) = S := ⟨_, rfl⟩
    rw [hS] at hle ⊢
    have hle2 : S ≤ 2000000 := by omega
    have HS' := Lib.hid hS
    clear hle hS
    by_cases hlt : k < m
    · have hkl : k < xs.length := by rw [HM.out]; exact hlt
      have hok := HS.out (sc xs k) (by rw [sc_lt hkl]; exact List.getElem_mem hkl)
      have hnn := HN.out (sc xs k) (by rw [sc_lt hkl]; exact List.getElem_mem hkl)
      have hst := scN_take hkl
      rw [HS'.out] at hst
      have hc := HCELL.out k hlt
      obtain ⟨a, c, e⟩ := hok.shape
      rw [e] at hc
      obtain ⟨q, hq⟩ : ∃ q, (sc xs k).n = q := ⟨_, rfl⟩
      rw [hq] at hc hnn hst
      have i1 : ¬ (S : Int) + (q : Int) < 0 := by omega
      have HST := Lib.hid hst
      clear hok e hq hst hkl
      go_wp2_with fail
      go_roundw
      case rel => exact ⟨k + 1, by omega, by go_num, by rw [HST.out]; go_num, by first | rfl | trivial⟩
      case measure => simp [intOf]; omega
    · obtain rfl : k = m := by omega
      have hS2 : S = scN xs := by rw [← HS'.out, List.take_of_length_le (by rw [HM.out]; exact Nat.le_refl _)]
      have HS2 := Lib.hid hS2
      have hgr := HG.out S wr (by omega)
      have HGR := Lib.hid hgr
      clear hS2 hgr
      go_wp2_with fail
      (with_reducible refine HGR.out.mono ?_)
      rintro e1 w1 ⟨v1, rfl, hown1, hb1⟩
      have HO1 := Lib.hid hown1
      have HB1 := Lib.hid hb1
      clear hown1 hb1
      obtain ⟨w0, hw0⟩ : ∃ x, x = wr := ⟨_, rfl⟩
      subst hw0
      go_wp2_with fail
      go_loopw [6, 8, 27] (fun s _ i wz => ∃ j : Nat, j ≤ k ∧ i = .int .i64 (j : Int) ∧ wz.ownsRow w0.heap.size 3 1 s (scN (xs.take j)) (scL (xs.take j)) ∧ Below w0.heap.size w0 wz) (fun _ _ i _ => k - (intOf i).toNat)
      case atStart => exact ⟨0, Nat.zero_le _, rfl, HO1.out, HB1.out⟩
      case round =>
        obtain ⟨j, hj, rfl, hown, hbz⟩ := hrel
        obtain ⟨sa, sc0, es⟩ := own_at hown
        subst es
        have HOWN := Lib.hid hown
        have HBZ := Lib.hid hbz
        clear hown hbz
        by_cases hlt2 : j < k
        · have hjl : j < xs.length := by rw [HM.out]; exact hlt2
          have hok := (HS.out (sc xs j) (by rw [sc_lt hjl]; exact List.getElem_mem hjl)).below HBZ.out
          have hle := scN_le HN.out (j + 1)
          have hc := cell_later HBZ.out (HCELL.out j (by omega))
          have hst := scN_take hjl
          have hsl := scL_take hjl
          obtain ⟨a, c, e⟩ := hok.shape
          rw [e] at hc
          have HE := Lib.hid e
          have HOK := Lib.hid hok
          have HST := Lib.hid hst
          have HSL := Lib.hid hsl
          have hb0 : scN (xs.take j) + (sc xs j).n ≤ 3000000 := by rw [← hst]; omega
          have HB0 := Lib.hid hb0
          obtain ⟨q, hq⟩ : ∃ q, (sc xs j).n = q := ⟨_, rfl⟩
          have HQ := Lib.hid hq
          rw [hq] at hc
          clear hok e hst hsl hle hjl hb0 hq
          go_wp2_with (
            at_builtin
            refine append_sc rfl (.tmp 31) (.tmp 32) Tryz.underlying35 hi0 hz0 hz1 hz2 rfl (by omega) rfl w0.heap.size _ _ _ rfl HOWN.out (sc xs j) (by rw [HE.out, HQ.out]; rfl) HOK.out HB0.out HBZ.out.size ?_
            intro v9 w9 hown9 hb9
            rw [← HST.out, ← HSL.out] at hown9
            have HO9 := Lib.hid hown9
            have HB9 := Lib.hid (HBZ.out.trans hb9)
            clear hown9 hb9)
          go_roundw
          case rel => exact ⟨j + 1, by omega, by go_num, HO9.out, HB9.out⟩
          case measure => simp [intOf]; omega
        · obtain rfl : j = k := by omega
          have hall : xs.take j = xs := List.take_of_length_le (by rw [HM.out]; exact Nat.le_refl _)
          rw [hall] at HOWN ⊢
          clear hall
          go_wp2
          go_ret
          exact ⟨_, rfl, HOWN.out, HBZ.out⟩
set_option maxRecDepth 100000 in
set_option maxHeartbeats 4000000 in
theorem growS_any (n : Nat) (w : World) (hn : n ≤ 3000000) :
    Calls Tryz.prog 76 #[.slice none 0 0, .int .i64 n] w fun r w' => ∃ v, r = .returned v ∧ w'.ownsRow w.heap.size 9 1 v 0 [] ∧ Below w.heap.size w w' := by
  obtain ⟨i0, hi0, hz0, hz1, hz2⟩ := info_parts string_info
  by_cases h0 : n = 0
  · subst h0
    go_enter Tryz.func76, Tryz.ntmps76
    go_wp2
    go_ret
    exact ⟨_, rfl, World.ownsRow_nil _ _ _ _, Below.refl _ _⟩
  · have i1 : ¬ (n : Int) < 0 := by omega
    have i2 : (0 : Int) < (n : Int) := by omega
    have hpos : 0 < n := by omega
    have hr := Lib.run_append_nil_zeros (P := Tryz.prog) w 33 3 33 9 i0 (.string ⟨#[]⟩) .i64 .i64 Tryz.underlying33 Tryz.underlying3 hi0 hz0 n hpos (by rw [hz1]; omega) (by omega) (by rw [hz2]; omega)
    obtain ⟨C, hC⟩ : ∃ C, grownCap w n 0 9 = C := ⟨_, rfl⟩
    have hc1 : n ≤ C := by rw [← hC]; exact grownCap_ge _ _ _ _
    have hc2 : C ≤ maxLen := by rw [← hC]; exact grownCap_le_maxLen _ _ _ _ (by simp only [maxLen]; omega)
    rw [hC] at hr
    obtain ⟨X, hX⟩ : ∃ X, Builtin.zeroCells (Value.cells (.string ⟨#[]⟩)) n ++ Builtin.zeroCells (Value.cells (.string ⟨#[]⟩)) (C - n) = X := ⟨_, rfl⟩
    have hxs : X.size = C * 1 := by rw [← hX, Array.size_append, size_zeroCells, size_zeroCells]; show n * 1 + (C - n) * 1 = C * 1; omega
    rw [hX] at hr
    have HR := Lib.hid hr
    have HX := Lib.hid hxs
    have HC2 := Lib.hid hc2
    have HB := Lib.hid ((show Below w.heap.size w w.drew from Tp.below_drew (Below.refl _ w)).alloc (Nat.le_refl _) (.cells X 9))
    clear hr hxs hX hC hc2 h0
    go_enter Tryz.func76, Tryz.ntmps76
    go_wp2_with (
      at_builtin
      refine Lib.wpList_append_run _ rfl (.tmp 20) (.tmp 21) _ _ rfl _ _ rfl rfl _ _ HR.out ?_)
    go_ret
    exact ⟨_, rfl, World.ownsRow_made w.drew X C (Nat.le_refl _) HC2.out HX.out, HB.out⟩
set_option maxRecDepth 100000 in
set_option maxHeartbeats 4000000 in
theorem concatS_any (xs : List Sc) (g c0 : Nat) (w : World) (hlen : xs.length ≤ 20) (hg : ∀ k, k < xs.length → w.cell? ⟨g, k, none⟩ = some (sc xs k).v) (hs : ∀ s ∈ xs, ScOk w s) (hn : ∀ s ∈ xs, s.n ≤ 100000) :
    Calls Tryz.prog 37 #[.slice (some ⟨g, 0, none⟩) xs.length c0] w fun r w' => ∃ v, r = .returned v ∧ w'.ownsRow w.heap.size 9 1 v (scN xs) (scL xs) ∧ Below w.heap.size w w' := by
  obtain ⟨i0, hi0, hz0, hz1, hz2⟩ := info_parts string_info
  have hall : scN xs ≤ 3000000 := by
    have := scN_le hn xs.length
    rw [List.take_length] at this
    omega
  have HG := Lib.hid (fun n w h => growS_any n w h)
  obtain ⟨m, hm⟩ : ∃ m, xs.length = m := ⟨_, rfl⟩
  rw [hm] at hlen hg ⊢
  have HM := Lib.hid hm
  have HCELL := Lib.hid hg
  have HS := Lib.hid hs
  have HN := Lib.hid hn
  have HALL := Lib.hid hall
  clear hm hg hs hn hall
  go_enter Tryz.func37, Tryz.ntmps37
  go_wp2_with fail
  go_loopw [3, 5, 11] (fun s _ i wr => ∃ k : Nat, k ≤ m ∧ i = .int .i64 (k : Int) ∧ s = .int .i64 (scN (xs.take k) : Nat) ∧ wr = w) (fun _ _ i _ => m - (intOf i).toNat)
  case atStart => exact ⟨0, Nat.zero_le _, rfl, rfl, rfl⟩
  case round =>
    obtain ⟨k, hk, rfl, rfl, rfl⟩ := hrel
    have hle := scN_le HN.out k
    obtain ⟨S, hS⟩ : ∃ S, scN (xs.take k) = S := ⟨_, rfl⟩
    rw [hS] at hle ⊢
    have hle2 : S ≤ 2000000 := by omega
    have HS' := Lib.hid hS
    clear hle hS
    by_cases hlt : k < m
    · have hkl : k < xs.length := by rw [HM.out]; exact hlt
      have hok := HS.out (sc xs k) (by rw [sc_lt hkl]; exact List.getElem_mem hkl)
      have hnn := HN.out (sc xs k) (by rw [sc_lt hkl]; exact List.getElem_mem hkl)
      have hst := scN_take hkl
      rw [HS'.out] at hst
      have hc := HCELL.out k hlt
      obtain ⟨a, c, e⟩ := hok.shape
      rw [e] at hc
      obtain ⟨q, hq⟩ : ∃ q, (sc xs k).n = q := ⟨_, rfl⟩
      rw [hq] at hc hnn hst
      have i1 : ¬ (S : Int) + (q : Int) < 0 := by omega
      have HST := Lib.hid hst
      clear hok e hq hst hkl
      go_wp2_with fail
      go_roundw
      case rel => exact ⟨k + 1, by omega, by go_num, by rw [HST.out]; go_num, by first | rfl | trivial⟩
      case measure => simp [intOf]; omega
    · obtain rfl : k = m := by omega
      have hS2 : S = scN xs := by rw [← HS'.out, List.take_of_length_le (by rw [HM.out]; exact Nat.le_refl _)]
      have HS2 := Lib.hid hS2
      have hgr := HG.out S wr (by omega)
      have HGR := Lib.hid hgr
      clear hS2 hgr
      go_wp2_with fail
      (with_reducible refine HGR.out.mono ?_)
      rintro e1 w1 ⟨v1, rfl, hown1, hb1⟩
      have HO1 := Lib.hid hown1
      have HB1 := Lib.hid hb1
      clear hown1 hb1
      obtain ⟨w0, hw0⟩ : ∃ x, x = wr := ⟨_, rfl⟩
      subst hw0
      go_wp2_with fail
      go_loopw [6, 8, 27] (fun s _ i wz => ∃ j : Nat, j ≤ k ∧ i = .int .i64 (j : Int) ∧ wz.ownsRow w0.heap.size 9 1 s (scN (xs.take j)) (scL (xs.take j)) ∧ Below w0.heap.size w0 wz) (fun _ _ i _ => k - (intOf i).toNat)
      case atStart => exact ⟨0, Nat.zero_le _, rfl, HO1.out, HB1.out⟩
      case round =>
        obtain ⟨j, hj, rfl, hown, hbz⟩ := hrel
        obtain ⟨sa, sc0, es⟩ := own_at hown
        subst es
        have HOWN := Lib.hid hown
        have HBZ := Lib.hid hbz
        clear hown hbz
        by_cases hlt2 : j < k
        · have hjl : j < xs.length := by rw [HM.out]; exact hlt2
          have hok := (HS.out (sc xs j) (by rw [sc_lt hjl]; exact List.getElem_mem hjl)).below HBZ.out
          have hle := scN_le HN.out (j + 1)
          have hc := cell_later HBZ.out (HCELL.out j (by omega))
          have hst := scN_take hjl
          have hsl := scL_take hjl
          obtain ⟨a, c, e⟩ := hok.shape
          rw [e] at hc
          have HE := Lib.hid e
          have HOK := Lib.hid hok
          have HST := Lib.hid hst
          have HSL := Lib.hid hsl
          have hb0 : scN (xs.take j) + (sc xs j).n ≤ 3000000 := by rw [← hst]; omega
          have HB0 := Lib.hid hb0
          obtain ⟨q, hq⟩ : ∃ q, (sc xs j).n = q := ⟨_, rfl⟩
          have HQ := Lib.hid hq
          rw [hq] at hc
          clear hok e hst hsl hle hjl hb0 hq
          go_wp2_with (
            at_builtin
            refine append_sc rfl (.tmp 31) (.tmp 32) Tryz.underlying33 hi0 hz0 hz1 hz2 rfl (by omega) rfl w0.heap.size _ _ _ rfl HOWN.out (sc xs j) (by rw [HE.out, HQ.out]; rfl) HOK.out HB0.out HBZ.out.size ?_
            intro v9 w9 hown9 hb9
            rw [← HST.out, ← HSL.out] at hown9
            have HO9 := Lib.hid hown9
            have HB9 := Lib.hid (HBZ.out.trans hb9)
            clear hown9 hb9)
          go_roundw
          case rel => exact ⟨j + 1, by omega, by go_num, HO9.out, HB9.out⟩
          case measure => simp [intOf]; omega
        · obtain rfl : j = k := by omega
          have hall : xs.take j = xs := List.take_of_length_le (by rw [HM.out]; exact Nat.le_refl _)
          rw [hall] at HOWN ⊢
          clear hall
          go_wp2
          go_ret
          exact ⟨_, rfl, HOWN.out, HBZ.out⟩
end Mg
end Go.Proofs.YtghkalamlcfnnaaGreatDoor
end
section
namespace Go.Proofs.YtghkalamlcfnnaaGreatDoor
open Go Go.RowKit Go.Shelf Lmd
attribute [local go_sem] Oper.semAt_some
namespace Mg
open Evt Bk Df Rul Day Cand Er Tp
theorem cellsOf_app (x y : List Int) : cellsOf (x ++ y) = cellsOf x ++ cellsOf y := by
  refine List.ext_getElem? fun j => ?_
  by_cases h1 : j < x.length
  · rw [cellsOf_get (by rw [List.length_append]; omega), List.getElem?_append_left (by rw [cellsOf_len]; exact h1), cellsOf_get h1]
    unfold Ints.el
    rw [List.getElem?_append_left h1]
  · by_cases h2 : j < x.length + y.length
    · rw [cellsOf_get (by rw [List.length_append]; exact h2), List.getElem?_append_right (by rw [cellsOf_len]; omega), cellsOf_len, cellsOf_get (by omega)]
      unfold Ints.el
      rw [List.getElem?_append_right (by omega)]
    · rw [List.getElem?_eq_none (by rw [cellsOf_len, List.length_append]; omega), List.getElem?_eq_none (by rw [List.length_append, cellsOf_len, cellsOf_len]; omega)]
theorem sc_ints {w : World} {v : Value} {x : List Int} (h : Ints.Reads w v x) : ScOk w ⟨v, x.length, cellsOf x⟩ := by
  rcases h with ⟨rfl, a, c, rfl⟩ | ⟨b, o, c, rfl, hc⟩
  · cases a with
    | none => exact .inl ⟨rfl, rfl, c, rfl⟩
    | some ad => exact .inr ⟨ad, c, rfl, rfl, fun j u hu => by simp [cellsOf] at hu, fun u hu => cellsOf_one u hu⟩
  · refine .inr ⟨⟨b, o, none⟩, c, rfl, cellsOf_len x, fun j u hu => ?_, fun u hu => cellsOf_one u hu⟩
    obtain ⟨hj, rfl⟩ := cellsOf_at hu
    rw [Evt.add_plain]; exact hc j hj
set_option maxRecDepth 100000 in
set_option maxHeartbeats 8000000 in
theorem skips_any (v1 v2 v3 : Value) (x y z : List Int) (w : World) (h1 : Ints.Reads w v1 x) (h2 : Ints.Reads w v2 y) (h3 : Ints.Reads w v3 z) (l1 : x.length ≤ 1000) (l2 : y.length ≤ 1000) (l3 : z.length ≤ 1000) :
    Calls Tryz.prog 192 #[v1, v2, v3] w fun r w' => ∃ v, r = .returned v ∧ w'.ownsRow w.heap.size 3 1 v (skM x y z).length (cellsOf (skM x y z)) ∧ Below w.heap.size w w' := by
  obtain ⟨a1, c1, rfl⟩ := h1.shape
  obtain ⟨a2, c2, rfl⟩ := h2.shape
  obtain ⟨a3, c3, rfl⟩ := h3.shape
  obtain ⟨W0, hW0⟩ : ∃ W0, w.alloc (.cells #[.slice a1 x.length c1, .slice a2 y.length c2, .slice a3 z.length c3] 35) = W0 := ⟨_, rfl⟩
  have hB0 : Below w.heap.size w W0 := by rw [← hW0]; exact (Below.refl _ w).alloc (Nat.le_refl _) _
  have hx0 : W0.heap[w.heap.size]? = some (.cells #[.slice a1 x.length c1, .slice a2 y.length c2, .slice a3 z.length c3] 35) := by rw [← hW0]; exact heap_new w _
  have hcc := concatI_any [⟨.slice a1 x.length c1, x.length, cellsOf x⟩, ⟨.slice a2 y.length c2, y.length, cellsOf y⟩, ⟨.slice a3 z.length c3, z.length, cellsOf z⟩] w.heap.size 3 W0 (by simp) (fun k hk => by
      match k, hk with
      | 0, _ => simp [World.cell?, hx0, sc]
      | 1, _ => simp [World.cell?, hx0, sc]
      | 2, _ => simp [World.cell?, hx0, sc]
      | k + 3, hk => simp at hk; omega) (fun s hs => by
      simp only [List.mem_cons, List.not_mem_nil, or_false] at hs
      rcases hs with rfl | rfl | rfl
      · exact (sc_ints h1).below hB0
      · exact (sc_ints h2).below hB0
      · exact (sc_ints h3).below hB0) (fun s hs => by
      simp only [List.mem_cons, List.not_mem_nil, or_false] at hs
      rcases hs with rfl | rfl | rfl <;> dsimp only <;> omega)
  change Calls _ _ #[.slice (some ⟨w.heap.size, 0, none⟩) 3 3] _ _ at hcc
  have hsn : scN [⟨.slice a1 x.length c1, x.length, cellsOf x⟩, ⟨.slice a2 y.length c2, y.length, cellsOf y⟩, ⟨.slice a3 z.length c3, z.length, cellsOf z⟩] = (x ++ y ++ z).length := by
    simp [scN] <;> omega
  have hsl : scL [⟨.slice a1 x.length c1, x.length, cellsOf x⟩, ⟨.slice a2 y.length c2, y.length, cellsOf y⟩, ⟨.slice a3 z.length c3, z.length, cellsOf z⟩] = cellsOf (x ++ y ++ z) := by
    rw [cellsOf_app, cellsOf_app]; simp [scL]
  rw [hsn, hsl] at hcc
  have hal : (x ++ y ++ z).length ≤ 3000 := by simp only [List.length_append]; omega
  have HCC := Lib.hid hcc
  have HW0 := Lib.hid hW0
  have HB0 := Lib.hid hB0
  have HR1 := Lib.hid (h1.below hB0)
  have HR2 := Lib.hid (h2.below hB0)
  have HR3 := Lib.hid (h3.below hB0)
  have HL := Lib.hid (And.intro l1 (And.intro l2 l3))
  obtain ⟨A, hA⟩ : ∃ A, x ++ y ++ z = A := ⟨_, rfl⟩
  rw [hA] at hal HCC
  have HA := Lib.hid hA
  clear hcc hW0 hB0 hx0 hsn hsl h1 h2 h3 l1 l2 l3 hA
  go_enter Tryz.func192, Tryz.ntmps192
  go_wp2_with fail
  rw [HW0.out]
  (with_reducible refine HCC.out.mono ?_)
  rintro e3 w3 ⟨v3, rfl, hown3, hb3⟩
  have HO3 := Lib.hid hown3
  have hrow3 := rowI_own hown3
  have HB3 := Lib.hid (HB0.out.trans (hb3.mono HB0.out.size))
  have HB03 := Lib.hid hb3
  have HGE := Lib.hid (fun j (ej : v3.ownBlock = some j) => (Nat.le_trans HB0.out.size (Evt.own_ge hown3 ej) : w.heap.size ≤ j))
  have HGE0 := Lib.hid (fun j (ej : v3.ownBlock = some j) => (Evt.own_ge hown3 ej : W0.heap.size ≤ j))
  have HSO := Lib.hid (Evt.sort_any v3 _ w3 hrow3 (by omega))
  obtain ⟨a3', c3', e3⟩ := hrow3.shape
  subst e3
  clear hown3 hrow3 hb3
  go_wp2_with fail
  (with_reducible refine HSO.out.mono ?_)
  rintro e4 w4 ⟨rfl, hrow4, hg4⟩
  have hco := Evt.compact_any _ _ w4 hrow4 (by rw [Evt.sort_len]; omega)
  have HCO := Lib.hid hco
  have HB4 := Lib.hid ((Below.refl W0.heap.size W0).trans ((HB03.out).trans ((Below.refl W0.heap.size w3).grown hg4 HB03.out.size HGE0.out)))
  clear hrow4 hg4 hco
  go_wp2_with fail
  (with_reducible refine HCO.out.mono ?_)
  rintro e5 w5 ⟨v5, rfl, hrow5, hob5, hg5⟩
  change RowI w5 v5 (Lmd.Cpt.uniq A) at hrow5
  have HB5 := Lib.hid (HB4.out.trans ((Below.refl W0.heap.size w4).grown hg5 HB4.out.size HGE0.out))
  have hrd5 := hrow5.reads
  obtain ⟨a5, c5, rfl⟩ := hrd5.shape
  obtain ⟨U, hU⟩ : ∃ U, Lmd.Cpt.uniq A = U := ⟨_, rfl⟩
  have hul : U.length ≤ 3000 := by
    rw [← hU]
    have := Lmd.Cpt.len_sub (Lmd.Cpt.uniq_rise A) (fun d hd => (Lmd.Cpt.uniq_mem A d).1 hd)
    omega
  have hsk : skM x y z = U.filter fun d => (pickG (x.contains d) (y.contains d) (z.contains d)).1 := by unfold skM; rw [HA.out, hU]
  rw [hU] at hrd5
  rw [hU]
  obtain ⟨n, hn⟩ : ∃ n, U.length = n := ⟨_, rfl⟩
  rw [hn] at hul hrd5 ⊢
  have HN := Lib.hid hn
  have HR5 := Lib.hid hrd5
  have HSK := Lib.hid hsk
  obtain ⟨P, hP⟩ : ∃ P : Int → Bool, (fun d => (pickG (x.contains d) (y.contains d) (z.contains d)).1) = P := ⟨_, rfl⟩
  rw [hP] at HSK
  have HPP := Lib.hid (fun d => (congrFun hP d : (pickG (x.contains d) (y.contains d) (z.contains d)).1 = P d))
  clear hrow5 hob5 hg5 hn HCO HSO hrd5 hU hsk hP HCC HO3
  go_wp2_with fail
  go_loopw [8, 10, 11, 12, 13, 14, 25] (fun v8 _ _ _ _ _ i wr => ∃ (k m : Nat) (a6 : Option Addr) (c6 : Nat), k ≤ n ∧ i = .int .i64 (k : Int) ∧ m = ((U.take k).filter P).length ∧ v8 = .slice a6 m c6 ∧ wr.ownsRow w5.heap.size 3 1 (.slice a6 m c6) ((U.take k).filter P).length (cellsOf ((U.take k).filter P)) ∧ Below w5.heap.size w5 wr) (fun _ _ _ _ _ _ i _ => n - (intOf i).toNat)
  case atStart => exact ⟨0, 0, none, 0, Nat.zero_le _, rfl, rfl, rfl, ⟨rfl, .inl ⟨rfl, rfl⟩⟩, Below.refl _ _⟩
  case round =>
    obtain ⟨k, m, a6, c6, hk, rfl, hm, rfl, hown, hbr⟩ := hrel
    have hml : m ≤ 3000 := by
      rw [hm]
      have h1 := List.length_filter_le P (U.take k)
      have h2 := List.length_take_le k U
      omega
    have HM := Lib.hid hm
    have HOWN := Lib.hid hown
    have HBR := Lib.hid hbr
    clear hm hown hbr
    by_cases hlt : k < n
    · have hkU : k < U.length := by rw [HN.out]; exact hlt
      obtain ⟨d, hd⟩ : ∃ d, Ints.el U k = d := ⟨_, rfl⟩
      have htk : (U.take (k + 1)).filter P = (U.take k).filter P ++ (if P d = true then [d] else []) := by
        rw [List.take_succ_eq_append_getElem hkU, ← Ints.el_lt hkU, hd, List.filter_append]
        congr 1
        by_cases hp : P d = true
        · rw [if_pos hp, List.filter_cons_of_pos hp]; rfl
        · rw [if_neg hp, List.filter_cons_of_neg hp]; rfl
      have hc := fun W (hw : Below w5.heap.size w5 W) => (show ∃ b o, a5 = some ⟨b, o, none⟩ ∧ W.cell? ⟨b, o + k, none⟩ = some (.int .i64 d) from by
        obtain ⟨_, b, o, ha, hc⟩ := HR5.out.at (by intro h; rw [h] at hkU; exact absurd hkU (Nat.not_lt_zero _))
        exact ⟨b, o, ha, by have := cell_later hw (hc k hkU); rw [hd] at this; exact this⟩)
      obtain ⟨b5, o5, rfl, hc0⟩ := hc wr HBR.out
      have hbw : Below W0.heap.size W0 wr := HB5.out.trans (HBR.out.mono HB5.out.size)
      have HX := Lib.hid (hasInt_any x _ d wr (HR1.out.below hbw) (by have := HL.out.1; omega))
      have HY := Lib.hid (hasInt_any y _ d wr (HR2.out.below hbw) (by have := HL.out.2.1; omega))
      have HZ := Lib.hid (hasInt_any z _ d wr (HR3.out.below hbw) (by have := HL.out.2.2; omega))
      have hpd := HPP.out d
      obtain ⟨bx, hbx⟩ : ∃ b, x.contains d = b := ⟨_, rfl⟩
      obtain ⟨by', hby⟩ : ∃ b, y.contains d = b := ⟨_, rfl⟩
      obtain ⟨bz, hbz⟩ : ∃ b, z.contains d = b := ⟨_, rfl⟩
      rw [hbx] at HX hpd
      rw [hby] at HY hpd
      rw [hbz] at HZ hpd
      have HPK := Lib.hid (pickB_any bx by' bz wr)
      obtain ⟨pd, hpd2⟩ : ∃ b, P d = b := ⟨_, rfl⟩
      rw [hpd2] at hpd htk
      rw [hpd] at HPK
      have HTK := Lib.hid htk
      clear hc hd htk hbw hbx hby hbz hpd hpd2 hkU
      go_wp2_with fail
      (with_reducible refine HY.out.mono ?_)
      rintro e7 w7 ⟨rfl, rfl⟩
      go_wp2_with fail
      (with_reducible refine HZ.out.mono ?_)
      rintro e8 w8 ⟨rfl, rfl⟩
      go_wp2_with fail
      (with_reducible refine HX.out.mono ?_)
      rintro e9 w9 ⟨rfl, rfl⟩
      go_wp2_with fail
      (with_reducible refine HPK.out.mono ?_)
      rintro e10 w10 ⟨rfl, rfl⟩
      cases pd with
      | false =>
        go_wp2_with fail
        go_roundw
        case rel => exact ⟨k + 1, m, a6, c6, by omega, by go_num, by rw [HTK.out, if_neg (by simp), List.append_nil]; exact HM.out, rfl, by rw [HTK.out, if_neg (by simp), List.append_nil]; exact HOWN.out, HBR.out⟩
        case measure => simp [intOf]; omega
      | true =>
        have hl3 : ((U.take k).filter P).length ≤ 3000000 := by rw [← HM.out]; omega
        have HL3 := Lib.hid hl3
        have hls := HBR.out.size
        clear hl3
        go_wp2_with (
          at_builtin
          refine append_int rfl (.tmp 45) (.tmp 47) rfl w5.heap.size (.slice a6 m c6) ((U.take k).filter P) rfl (own_later HOWN.out ((Below.refl _ _).alloc (Nat.le_refl _) _)) w10.heap.size d rfl (cell_of (heap_new w10 _) rfl) HL3.out (Nat.le_trans hls (by simp)) ?_
          intro a9 c9 w9 hown9 hb9
          rw [← HM.out]
          have HO9 := Lib.hid hown9
          have HB9 := Lib.hid hb9
          clear hown9 hb9)
        go_roundw
        case rel =>
          have e : (U.take (k + 1)).filter P = (U.take k).filter P ++ [d] := by rw [HTK.out]; first | rw [if_pos rfl] | rw [if_pos trivial]
          refine ⟨k + 1, m + 1, a9, c9, by omega, by go_num, by rw [e, List.length_append, ← HM.out]; rfl, rfl, ?_, (HBR.out.alloc hls _).trans HB9.out⟩
          have h := HO9.out
          rw [← HM.out] at h
          rw [e]; exact h
        case measure => simp [intOf]; omega
    · obtain rfl : k = n := by omega
      have hall : U.take k = U := List.take_of_length_le (by rw [HN.out]; exact Nat.le_refl _)
      rw [hall] at HOWN HM
      clear hall
      go_wp2
      go_ret
      refine ⟨_, rfl, ?_, HB0.out.trans ((HB5.out.trans (HBR.out.mono HB5.out.size)).mono HB0.out.size)⟩
      rw [HSK.out]
      obtain ⟨h1, h2⟩ := HOWN.out
      refine ⟨h1, h2.imp id ?_⟩
      rintro ⟨g, cap, cur, e, hb, hr⟩
      exact ⟨g, cap, cur, e, Nat.le_trans (Nat.le_trans HB0.out.size HB5.out.size) hb, hr⟩
end Mg
end Go.Proofs.YtghkalamlcfnnaaGreatDoor
end
