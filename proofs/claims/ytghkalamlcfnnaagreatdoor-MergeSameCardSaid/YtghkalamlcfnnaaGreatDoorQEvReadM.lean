/- package event: readMoves, of any text. -/
import Derived.Test.YtghkalamlcfnnaaGreatDoorQEvRead
import Derived.Test.YtghkalamlcfnnaaGreatDoorQCutLaw
import Derived.Test.YtghkalamlcfnnaaGreatDoorQA11
namespace Go.Proofs.YtghkalamlcfnnaaGreatDoor
open Go Go.RowKit Go.Shelf Lmd
attribute [local go_sem] Oper.semAt_some
namespace Evt
open Rul Day Cand Er
set_option maxRecDepth 100000 in
set_option maxHeartbeats 2000000 in
theorem split_seq2 (b : Nat) (s : ByteArray) (c : UInt8) (N : Nat) (w : World) (h0 : Boxed w b 9 (.string s)) (h1 : Boxed w (b + 1) 9 (.string ⟨#[c]⟩)) (h2 : Boxed w (b + 2) 3 (.int .i64 0)) (hN : s.size < N) (hsz : s.size < 4294967281) :
    Rge.Seq Tryz.prog 296 (lbS b) (fun x : {x : ByteArray // x.size ≤ s.size} => #[.string x.1]) (fun r => r = b) (fun O => ¬ O b ∧ ¬ O (b + 1) ∧ ¬ O (b + 2)) (fun xs => xs.map (·.1) = pieces c s) (fun pre => pre.map (·.1) <+: pieces c s) N w := by
  intro O l J Jx W hW hO _ _ hJ hJx hY h00
  refine (callsIn_wide (n := Rng.dp + 1)).1 ?_
  refine callsIn_of_wp Tryz.func296 rfl trivial ?_ rfl
  simp only [Tryz.ntmps296, lbS, List.size_toArray, List.length_cons, List.length_nil, Nat.reduceAdd, Nat.reduceSub, Array.replicate_succ, Array.replicate_zero, List.push_toArray, List.append_toArray, List.nil_append, List.cons_append]
  have g0 := h0.kept (Rng.grownBy_of_below hW) (by simp)
  have g1 := h1.kept (Rng.grownBy_of_below hW) (by simp)
  have g2 := h2.kept (Rng.grownBy_of_below hW) (by simp)
  have x1 := g1.cell
  have hb2 := g2.lt
  have HJ0 := Lib.hid (h00 W (Below.refl _ _))
  have HY := Lib.hid hY
  have HJ := Lib.hid hJ
  have HJX := Lib.hid hJx
  have HO := Lib.hid hO
  clear h00 hY hJ hJx hO h0 h1 h2
  gi_wp2
  gi_loopw [] (fun wr => ∃ (pre : List {x : ByteArray // x.size ≤ s.size}) (rest : ByteArray), pieces c s = pre.map (·.1) ++ pieces c rest ∧ rest.size ≤ s.size ∧ pre.length + rest.size ≤ s.size ∧ Boxed wr b 9 (.string rest) ∧ Boxed wr (b + 1) 9 (.string ⟨#[c]⟩) ∧ Boxed wr (b + 2) 3 (.int .i64 0) ∧ J W.heap.size pre wr) (fun wr => restLen b wr)
  case atStart => exact ⟨[], s, rfl, Nat.le_refl _, by simp, g0, g1, g2, HJ0.out⟩
  case round =>
    obtain ⟨pre, rest, hp, hr, hl, b0, b1, b2, hj⟩ := hrel
    have y0 := b0.cell
    have y1 := b1.cell
    have y2 := b2.cell
    have z0 := b0.frozen
    have hrl := restLen_of b0
    have B0 := Lib.hid b0
    have B1 := Lib.hid b1
    have B2 := Lib.hid b2
    have HP := Lib.hid hp
    have HJ1 := Lib.hid hj
    have HR := Lib.hid hr
    have HL := Lib.hid hl
    have HRL := Lib.hid hrl
    have hidx := Tryz.strings_Index_one rest c wr
    rcases Lib.indexB_cases rest ⟨#[c]⟩ with hix | ⟨i, hix, hle⟩
    · rw [indexB_one] at hix
      rw [hix] at hidx
      have HIX := Lib.hid hix
      have HI := Lib.hid hidx
      clear b0 b1 b2 hp hj hr hl hix hidx hrl
      obtain ⟨f1, t1, a1, c1, hy1, hR1⟩ := HY.out W.heap.size pre ⟨rest, HR.out⟩ _ (Nat.le_refl _) HJ1.out (by have := HL.out; omega)
      gi_wp2_with (refine ⟨trivial, ?_⟩; gi_at_call 228; refine (callsIn_wide.2 HI.out).mono ?_; rintro e' w2 ⟨rfl, rfl⟩)
      refine hR1.mono ?_
      rintro e W1 (⟨rfl, hJ1, hk1⟩ | ⟨rfl, hx1, hr1⟩)
      · gi_wp2
        go_end0
        exact ⟨⟨_, rfl⟩, W.heap.size, Nat.le_refl _, .inl ⟨pre ++ [⟨rest, HR.out⟩], by rw [List.map_append, HP.out, pieces_miss HIX.out]; rfl, hJ1⟩⟩
      · gi_wp2
        go_end0
        exact ⟨⟨_, rfl⟩, W.heap.size, Nat.le_refl _, .inr ⟨pre ++ [⟨rest, HR.out⟩], by rw [List.map_append, HP.out, pieces_miss HIX.out]; exact List.prefix_rfl, hx1⟩⟩
    · rw [indexB_one] at hix
      rw [hix] at hidx
      have HIX := Lib.hid hix
      have HI := Lib.hid hidx
      have hle' : i + 1 ≤ rest.size := hle
      have hrs : rest.size < 4294967281 := by omega
      have HP2 := Lib.hid (hp.trans (by rw [pieces_hit HIX.out]))
      have hex : (rest.extract 0 i).size ≤ s.size := by rw [ByteArray.size_extract]; omega
      have HEX := Lib.hid hex
      clear b0 b1 b2 hp hj hr hl hix hidx hrl hle hex
      obtain ⟨f1, t1, a1, c1, hy1, hR1⟩ := HY.out W.heap.size pre ⟨rest.extract 0 i, HEX.out⟩ _ (Nat.le_refl _) HJ1.out (by have := HL.out; omega)
      gi_wp2_with (refine ⟨trivial, ?_⟩; gi_at_call 228; refine (callsIn_wide.2 HI.out).mono ?_; rintro e' w2 ⟨rfl, rfl⟩)
      refine hR1.mono ?_
      rintro e W1 (⟨rfl, hJ1, hk1⟩ | ⟨rfl, hx1, hr1⟩)
      · have d0 := boxed_stay B0.out hk1 HO.out.1 (by omega)
        have d1 := boxed_stay B1.out hk1 HO.out.2.1 (by omega)
        have d2 := boxed_stay B2.out hk1 HO.out.2.2 (by omega)
        have v0 := d0.cell
        have v1 := d1.cell
        have v2 := d2.cell
        have v3 := d0.frozen
        have D0 := Lib.hid d0
        have D1 := Lib.hid d1
        have D2 := Lib.hid d2
        have HJ2 := Lib.hid hJ1
        clear d0 d1 d2 hJ1 hk1
        have hes : (rest.extract (i + 1) rest.size).size = rest.size - (i + 1) := by rw [ByteArray.size_extract]; omega
        have HES := Lib.hid hes
        clear hes
        gi_wp2
        go_roundw
        case rel =>
          refine ⟨pre ++ [⟨rest.extract 0 i, HEX.out⟩], rest.extract (i + 1) rest.size, by rw [HP2.out]; simp, by rw [HES.out]; have := HR.out; omega, by rw [HES.out]; have := HL.out; simp; omega, D0.out.set _, D1.out.other (by omega) _, D2.out.other (by omega) _, ?_⟩
          exact HJ.out W.heap.size _ W1 _ (some b) (Nat.le_refl _) HJ2.out (grownBy_setCell' W1 b _) (fun r e => by cases e; exact .inr rfl)
        case measure =>
          rw [restLen_of (D0.out.set _), HRL.out, HES.out]; omega
      · gi_wp2
        refine bodyPost_ret (results_none rfl _ _ _) rfl ?_
        exact ⟨⟨_, rfl⟩, W.heap.size, Nat.le_refl _, .inr ⟨pre ++ [⟨rest.extract 0 i, HEX.out⟩], ⟨pieces c (rest.extract (i + 1) rest.size), by rw [HP2.out]; simp⟩, hx1⟩⟩
def mvA (x : ByteArray) : List UInt8 := (Lib.cut x.data.toList [62]).1
def mvB (x : ByteArray) : List UInt8 := (Lib.cut x.data.toList [62]).2.1
def mvC1 (x : ByteArray) : Nat := if (Lib.cut x.data.toList [62]).2.2 = false then 1 else if dayC (mvA x) ≠ 0 then dayC (mvA x) else dayC (mvB x)
def mvV1 (x : ByteArray) : Int × Int := (dayX (mvA x), dayX (mvB x))
def mvC : List ByteArray → Nat
  | [] => 0
  | x :: t => if mvC1 x ≠ 0 then mvC1 x else mvC t
def mvV (L : List ByteArray) : List (Int × Int) := L.map mvV1
theorem mvC_ok {L : List ByteArray} (h : ∀ x ∈ L, mvC1 x = 0) : mvC L = 0 := by
  induction L with
  | nil => rfl
  | cons x t ih => unfold mvC; rw [if_neg (by rw [h x (by simp)]; simp)]; exact ih (fun y hy => h y (by simp [hy]))
theorem mvC_bad {p t : List ByteArray} {x : ByteArray} (h : ∀ y ∈ p, mvC1 y = 0) (hx : mvC1 x ≠ 0) : mvC (p ++ x :: t) = mvC1 x := by
  induction p with
  | nil => show mvC (x :: t) = _; unfold mvC; rw [if_pos hx]
  | cons y p ih => show mvC (y :: (p ++ x :: t)) = _; unfold mvC; rw [if_neg (by rw [h y (by simp)]; simp)]; exact ih (fun z hz => h z (by simp [hz]))
def HoldsM (b : Nat) (hi : Nat) (l : List (Int × Int)) (W : World) : Prop :=
  ∃ v, Boxed W b 38 v ∧ W.ownsRow hi 95 2 v l.length (cellsM l)
theorem holdsM_kept {b hi : Nat} {l : List (Int × Int)} {W W' : World} {row : Option Nat} (h : HoldsM b hi l W) (hg : W.grownBy W' row) (hb : ∀ r, row = some r → r ≠ b) (hr : ∀ r, row = some r → r < hi) : HoldsM b hi l W' := by
  obtain ⟨v, h1, h2⟩ := h
  refine ⟨v, h1.kept hg (fun e => hb b e.symm rfl), h2.kept hg ?_⟩
  cases hv : v.ownBlock with
  | none =>
    rcases h2.2 with ⟨rfl, _⟩ | ⟨g, cap, cur, rfl, _⟩
    · exact .inl rfl
    · simp [Value.ownBlock] at hv
  | some g =>
    exact .inr fun e => by have := ownBlock_ge h2 hv; have := hr g e.symm; omega
theorem holdsM_reads {b hi : Nat} {l : List (Int × Int)} {W : World} (h : HoldsM b hi l W) : ∃ a c, Boxed W b 38 (.slice a l.length c) ∧ W.ownsRow hi 95 2 (.slice a l.length c) l.length (cellsM l) := by
  obtain ⟨v, h1, h2⟩ := h
  obtain ⟨a, c, rfl⟩ := own_at h2
  exact ⟨a, c, h1, h2⟩
theorem rge_holdsM {α : Type} {E : Nat → Prop} {B b : Nat} (f : α → List (Int × Int)) (hb : b < B) (hE : ¬ E b) (hEB : ∀ r, E r → r < B) : Rge.Stable E B (fun hi s W' => HoldsM b hi (f s) W') := by
  intro hi s A C row hB hs hg hr
  refine holdsM_kept hs hg (fun r e => ?_) (fun r e => ?_)
  · rcases hr r e with h | h
    · omega
    · exact fun x => hE (x ▸ h)
  · rcases hr r e with h | h
    · omega
    · have := hEB r h; omega
theorem ownM_far {w : World} {base n : Nat} {e : TypeId} {s : Nat} {v u : Value} {xs : List Value} {p : Addr} (h : w.ownsRow base e s v n xs) (hp : p.block < base) : (w.setCell p u).ownsRow base e s v n xs := by
  refine ⟨h.1, ?_⟩
  rcases h.2 with h2 | ⟨g, cap, cur, h1, h2, hh, hr⟩
  · exact .inl h2
  · exact .inr ⟨g, cap, cur, h1, h2, (row_far (by omega)).trans hh, hr⟩
theorem holdsM_append {b hi : Nat} {l : List (Int × Int)} {x : Int × Int} {W w1 : World} {v v' : Value} {O : Nat → Prop} (hv : Boxed W b 38 v) (hrow : W.ownsRow hi 95 2 v l.length (cellsM l))
    (hO : O b) (hown : w1.ownsRow hi 95 2 v' (l.length + 1) (cellsM l ++ [.int .i64 x.1, .int .i64 x.2])) (hg : (W.alloc (.cells #[.int .i64 x.1, .int .i64 x.2] 95)).grownBy w1 v.ownBlock) :
    Boxed w1 b 38 v ∧ HoldsM b hi (l ++ [x]) (w1.setCell ⟨b, 0, none⟩ v') ∧ Rng.Stay O hi W (w1.setCell ⟨b, 0, none⟩ v') := by
  have hte : 38 ≠ 95 := by decide
  have hv1 : Boxed w1 b 38 v := (hv.alloc _).kept hg (hv.not_row hte hrow)
  refine ⟨hv1, ⟨v', hv1.set v', ?_⟩, ?_⟩
  · rw [cellsM_snoc, List.length_append]
    exact hown.kept (grownBy_setCell' w1 b v') (.inr (hv1.not_row hte hown).symm)
  · have h1 : Rng.Stay O hi W (W.alloc (.cells #[.int .i64 x.1, .int .i64 x.2] 95)) := Rng.Stay.of_below ((Below.refl _ W).alloc (Nat.le_refl _) _)
    have h2 : Rng.Stay O hi (W.alloc (.cells #[.int .i64 x.1, .int .i64 x.2] 95)) w1 := by
      refine ⟨hg.os, hg.tape, hg.output, hg.size, fun k o hk ho => ?_⟩
      have hlt := (Array.getElem?_eq_some_iff.1 hk).1
      rw [hg.block k hlt ?_]
      · exact hk
      · intro e
        have hge := ownBlock_ge hrow e.symm
        rcases ho with ho | ⟨_, ho⟩
        · rcases (hrow.alloc (.cells #[.int .i64 x.1, .int .i64 x.2] 95)).2 with ⟨rfl, _⟩ | ⟨g, cap, cur, rfl, _, hgb, _⟩
          · simp [Value.ownBlock] at e
          · obtain rfl : g = k := by simpa [Value.ownBlock] using e.symm
            rw [hgb] at hk; cases hk; cases ho
        · omega
    refine (h1.trans h2).setCell (.inl hO) (fun o ho => ?_) _
    rw [show W.heap[b]? = _ from hv] at ho; cases ho; rfl
def MvPost (er : Nat → Addr) (s : ByteArray) (w : World) (e' : Ending) (w' : World) : Prop :=
  ∃ v, e' = .returned (.tuple #[v, errV er (mvC (listP s))]) ∧ (mvC (listP s) ≠ 0 → v = .slice none 0 0) ∧ (mvC (listP s) = 0 → MReads w' v (mvV (listP s)) ∧ ∀ b o n c, v = .slice (some ⟨b, o, none⟩) n c → w.heap.size ≤ b) ∧ Below w.heap.size w w'
set_option maxRecDepth 100000 in
set_option maxHeartbeats 4000000 in
theorem readMoves_none (s : ByteArray) (er : Nat → Addr) (w : World) (h0 : s.toList = []) :
    Calls Tryz.prog 190 #[.string s] w (MvPost er s w) := by
  have hl : listP s = [] := by unfold listP; rw [if_pos h0]
  have HL := Lib.hid hl
  clear hl
  go_enter Tryz.func190, Tryz.ntmps190
  go_wp2
  have y2 := ((Boxed.new w 38 (.slice none 0 0)).alloc (.cells #[.nilIface] 60)).cell
  have y3 := (Boxed.new (w.alloc (.cells #[.slice none 0 0] 38)) 60 .nilIface).cell
  rw [World.size_alloc] at y3
  refine bodyPost_ret (v := .tuple #[.slice none 0 0, .nilIface]) (by simp [results, Tryz.f190, go_sem, y2, y3]) rfl ?_
  refine ⟨_, ?_, fun h => rfl, fun _ => ⟨?_, fun b o n c h => by cases h⟩, ((Below.refl _ w).alloc (Nat.le_refl _) _).alloc (by simp) _⟩
  · rw [HL.out]; rfl
  · rw [HL.out]; exact .inl ⟨rfl, _, _, rfl⟩
set_option maxRecDepth 100000 in
set_option maxHeartbeats 8000000 in
theorem readMoves_any (s : ByteArray) (er : Nat → Addr) (m : Int) (w : World) (hs : s.size ≤ 1000000) (he : Env w er m) :
    Calls Tryz.prog 190 #[.string s] w (MvPost er s w) := by
  by_cases h00 : s.toList = []
  · exact readMoves_none s er w h00
  obtain ⟨i0, hi0, hz0, hz1, hz2⟩ := info_parts move_info
  have hLP : listP s = pieces 44 s := by unfold listP; rw [if_neg h00]
  have HLP := Lib.hid hLP
  have HE := Lib.hid he
  have hne : (s.toList == []) = false := by simpa using h00
  have hne2 : s.toList.isEmpty = false := by simpa using h00
  clear he hLP
  refine (callsIn_wide (n := Rng.dp + 1)).1 ?_
  refine callsIn_of_wp_marks Tryz.func190 rfl trivial ?_ rfl
  simp only [Tryz.ntmps190, List.size_toArray, List.length_cons, List.length_nil, Nat.reduceAdd, Nat.reduceSub, Array.replicate_succ, Array.replicate_zero, List.push_toArray, List.append_toArray, List.nil_append, List.cons_append]
  gi_wp2_with (refine ⟨trivial, ?_⟩; gi_at_call 236; refine (callsIn_wide.2 (splitSeq_any s ⟨#[44]⟩ _)).mono ?_; rintro e' w2 ⟨rfl, rfl⟩)
  obtain ⟨W3, hW3⟩ : ∃ W3, ((w.alloc (.cells #[.slice none 0 0] 38)).alloc (.cells #[.nilIface] 60)).alloc (.cells #[.slice none 0 0] 38) = W3 := ⟨_, rfl⟩
  have hz3 : W3.heap.size = w.heap.size + 1 + 1 + 1 := by rw [← hW3]; simp
  have hB3 : Below w.heap.size w W3 := by
    rw [← hW3]
    exact (((Below.refl _ w).alloc (Nat.le_refl _) _).alloc (by simp) _).alloc (by simp; omega) _
  have a2 : Boxed W3 w.heap.size 38 (.slice none 0 0) := by
    have h := ((Boxed.new w 38 (.slice none 0 0)).alloc (.cells #[.nilIface] 60)).alloc (.cells #[.slice none 0 0] 38)
    rw [hW3] at h; exact h
  have a3 : Boxed W3 (w.heap.size + 1) 60 .nilIface := by
    have h := (Boxed.new (w.alloc (.cells #[.slice none 0 0] 38)) 60 .nilIface).alloc (.cells #[.slice none 0 0] 38)
    rw [hW3] at h; simpa only [World.size_alloc] using h
  have a4 : Boxed W3 (w.heap.size + 1 + 1) 38 (.slice none 0 0) := by
    have h := Boxed.new ((w.alloc (.cells #[.slice none 0 0] 38)).alloc (.cells #[.nilIface] 60)) 38 (.slice none 0 0)
    rw [hW3] at h; simpa only [World.size_alloc] using h
  rw [hW3]
  have e0 := ((Boxed.new W3 9 (.string s)).alloc (.cells #[.string ⟨#[44]⟩] 9)).alloc (.cells #[.int .i64 0] 3)
  have e1 := (Boxed.new (W3.alloc (.cells #[.string s] 9)) 9 (.string ⟨#[44]⟩)).alloc (.cells #[.int .i64 0] 3)
  have e2 := Boxed.new ((W3.alloc (.cells #[.string s] 9)).alloc (.cells #[.string ⟨#[44]⟩] 9)) 3 (.int .i64 0)
  obtain ⟨W0, hW0⟩ : ∃ W0, ((W3.alloc (.cells #[.string s] 9)).alloc (.cells #[.string ⟨#[44]⟩] 9)).alloc (.cells #[.int .i64 0] 3) = W0 := ⟨_, rfl⟩
  have hB0 : Below W3.heap.size W3 W0 := by rw [← hW0]; exact (((Below.refl _ W3).alloc (Nat.le_refl _) _).alloc (by simp) _).alloc (by simp; omega) _
  have hz : W0.heap.size = w.heap.size + 1 + 1 + 1 + 1 + 1 + 1 := by rw [← hW0]; simp [hz3]
  rw [hW0] at e0 e1 e2 ⊢
  rw [hz3] at e0
  rw [World.size_alloc, hz3] at e1
  rw [World.size_alloc, World.size_alloc, hz3] at e2
  have hBw : Below w.heap.size w W0 := hB3.trans (hB0.mono (by omega))
  have b2 := a2.kept (Rng.grownBy_of_below hB0) (by simp)
  have b3 := a3.kept (Rng.grownBy_of_below hB0) (by simp)
  have b4 := a4.kept (Rng.grownBy_of_below hB0) (by simp)
  have hseq := split_seq2 (w.heap.size + 1 + 1 + 1) s 44 1000001 W0 e0 e1 e2 (by omega) (by omega)
  have cl : ∀ {b : Nat} {t : TypeId} {u : Value} {A : World}, Boxed A b t u → ∀ o, A.heap[b]? = some o → o.isCells = true := fun hb o ho => by
    rw [show _ = _ from hb] at ho; cases ho; rfl
  have hES : ∀ r, r = w.heap.size + 1 + 1 + 1 → (fun b => b = w.heap.size ∨ b = w.heap.size + 1 ∨ b = w.heap.size + 1 + 1 ∨ b = w.heap.size + 1 + 1 + 1) r ∧ ∀ o, W0.heap[r]? = some o → o.isCells = true := by
    rintro r rfl
    exact ⟨.inr (.inr (.inr rfl)), cl e0⟩
  have HSEQ := Lib.hid hseq
  have HES := Lib.hid hES
  have HBW := Lib.hid hBw
  clear hW0 hW3 a2 a3 a4 hseq e1 e2 hES hne hne2
  refine Rge.range_law (n := Rng.dp + 1) (by decide) (gf := 296) (lb := lbS (w.heap.size + 1 + 1 + 1)) rfl (enters_of Tryz.func296 (by kernel_rfl) rfl)
    HSEQ.out (Below.refl _ _) (fun _ => rfl) (fun b hb => by omega) (fun b => b = w.heap.size ∨ b = w.heap.size + 1 ∨ b = w.heap.size + 1 + 1) (fun b hb => by omega) ⟨by omega, by omega, by omega⟩
    (fun hi pre W' => ((Boxed W' w.heap.size 38 (.slice none 0 0) ∧ Boxed W' (w.heap.size + 1) 60 .nilIface) ∧ HoldsM (w.heap.size + 1 + 1) hi (mvV (pre.map (·.1))) W' ∧ hi ≤ W'.heap.size) ∧ Rng.Stay (fun b => b = w.heap.size ∨ b = w.heap.size + 1 ∨ b = w.heap.size + 1 + 1 ∨ b = w.heap.size + 1 + 1 + 1) W0.heap.size W0 W' ∧ (∀ x ∈ pre.map (·.1), mvC1 x = 0))
    (fun c _ pre W' => ∃ q, (Boxed W' w.heap.size 38 (.slice none 0 0) ∧ Boxed W' (w.heap.size + 1) 60 (ev (er q))) ∧ Rng.Stay (fun b => b = w.heap.size ∨ b = w.heap.size + 1 ∨ b = w.heap.size + 1 + 1 ∨ b = w.heap.size + 1 + 1 + 1) W0.heap.size W0 W' ∧ (c = .ret ∧ ∃ (p : List ByteArray) (x : ByteArray), pre.map (·.1) = p ++ [x] ∧ (∀ y ∈ p, mvC1 y = 0) ∧ mvC1 x = q + 1))
    ?hI ?hIx ?h0 (fun x : {x : ByteArray // x.size ≤ s.size} => { tmps := #[.string s, undef, .pointer (some ⟨w.heap.size, 0, none⟩), .pointer (some ⟨w.heap.size + 1, 0, none⟩), .pointer (some ⟨w.heap.size + 1 + 1, 0, none⟩), .string x.1, undef, undef, undef, undef, undef, undef, .string s, .bool false, .string s, .func (.func 296) #[] (lbS (w.heap.size + 1 + 1 + 1)), .string x.1, undef, undef, undef, undef, undef, undef, undef, undef, undef, undef, undef, undef, undef, undef, undef, undef, undef, undef, undef, undef, undef, undef, undef, undef, undef, undef, undef, undef, undef, undef, undef, undef], defers := [] }) ?assign ?body ?done ?stop
  case hI =>
    exact rge_and (rge_and (rge_and (rge_boxed (f := fun _ => .slice none 0 0) (by omega) (by omega)) (rge_boxed (f := fun _ => .nilIface) (by omega) (by omega))) (rge_and (rge_holdsM (fun p : List {x : ByteArray // x.size ≤ s.size} => mvV (p.map (·.1))) (by omega) (by omega) (fun r hr => by omega)) rge_size)) (rge_and (rge_stay _ _ _ (Nat.le_refl _) HES.out) (rge_const (fun pre : List {x : ByteArray // x.size ≤ s.size} => ∀ x ∈ pre.map (·.1), mvC1 x = 0)))
  case hIx =>
    intro c
    refine rge_ex fun q => ?_
    exact rge_and (rge_and (rge_boxed (f := fun _ => .slice none 0 0) (by omega) (by omega)) (rge_boxed (f := fun _ => ev (er q)) (by omega) (by omega))) (rge_and (rge_stay _ _ _ (Nat.le_refl _) HES.out) (rge_const (fun pre : List {x : ByteArray // x.size ≤ s.size} => c = .ret ∧ ∃ (p : List ByteArray) (x : ByteArray), pre.map (·.1) = p ++ [x] ∧ (∀ y ∈ p, mvC1 y = 0) ∧ mvC1 x = q + 1)))
  case h0 =>
    intro W' hW'
    refine ⟨⟨⟨b2.kept (Rng.grownBy_of_below hW') (by simp), b3.kept (Rng.grownBy_of_below hW') (by simp)⟩, ⟨.slice none 0 0, b4.kept (Rng.grownBy_of_below hW') (by simp), by simp [cellsM, mvV], .inl ⟨rfl, rfl⟩⟩, Nat.le_refl _⟩, Rng.Stay.of_below hW', by simp⟩
  case assign =>
    intro l2 x W' K hK
    gi_wp2
    exact hK
  case body =>
    rintro hi l2 pre ⟨x, hxs⟩ W' hhi ⟨⟨⟨c2, c3⟩, hh, hsz⟩, hst, hall⟩ hlen
    obtain ⟨a, c, hbx, hown⟩ := holdsM_reads hh
    have hbW : Below w.heap.size w W' := HBW.out.trans (stay_below hst (fun b h => by omega) (by omega) (by omega))
    have hcut := Tryz.strings_Cut x ⟨#[62]⟩ m W' (by omega) (HE.out.below hbW).ml
    have CL2 := Lib.hid (cl b2)
    have CL3 := Lib.hid (cl b3)
    have HZ := Lib.hid hz
    have HST := Lib.hid hst
    have C2 := Lib.hid c2
    have C3 := Lib.hid c3
    have HB := Lib.hid hbx
    have HOWN := Lib.hid hown
    have HSZ := Lib.hid hsz
    have HALL := Lib.hid hall
    have HHI := Lib.hid hhi
    have hlen' : (mvV (pre.map (·.1))).length < 1000001 := by simpa [mvV] using hlen
    have HLEN := Lib.hid hlen'
    obtain ⟨A, hA⟩ : ∃ A, (Lib.cut x.data.toList [62]).1 = A := ⟨_, rfl⟩
    obtain ⟨B, hBe⟩ : ∃ B, (Lib.cut x.data.toList [62]).2.1 = B := ⟨_, rfl⟩
    obtain ⟨F, hF⟩ : ∃ F, (Lib.cut x.data.toList [62]).2.2 = F := ⟨_, rfl⟩
    have hmc : mvC1 x = if F = false then 1 else if dayC A ≠ 0 then dayC A else dayC B := by rw [← hA, ← hBe, ← hF]; rfl
    have hmv : mvV1 x = (dayX A, dayX B) := by rw [← hA, ← hBe]; rfl
    have e62 : (⟨#[62]⟩ : ByteArray).data.toList = [62] := rfl
    rw [e62, hA, hBe, hF] at hcut
    have hra := fun W (h : Below W'.heap.size W' W) => readDay_five ⟨A.toArray⟩ er W ((HE.out.below hbW).below h).five
    have hrb := fun W (h : Below W'.heap.size W' W) => readDay_five ⟨B.toArray⟩ er W ((HE.out.below hbW).below h).five
    obtain ⟨qa, hqa⟩ : ∃ q, dayC A = q := ⟨_, rfl⟩
    obtain ⟨qb, hqb⟩ : ∃ q, dayC B = q := ⟨_, rfl⟩
    obtain ⟨xa, hxa⟩ : ∃ q, dayX A = q := ⟨_, rfl⟩
    obtain ⟨xb, hxb⟩ : ∃ q, dayX B = q := ⟨_, rfl⟩
    simp only [hqa, hxa] at hra
    simp only [hqb, hxb] at hrb
    rw [hqa, hqb] at hmc
    rw [hxa, hxb] at hmv
    have hce := (HE.out.below hbW).errs.s0.cell
    have HCUT := Lib.hid hcut
    have HRA := Lib.hid hra
    have HRB := Lib.hid hrb
    have HMC := Lib.hid hmc
    have HMV := Lib.hid hmv
    have HCE := Lib.hid hce
    clear hz hst c2 c3 hh hbx hown hsz hall hhi hlen hlen' cl hbW hcut hA hBe hF hmc hmv e62 hra hrb hqa hqb hxa hxb hce
    cases F with
    | false =>
      gi_wp2_with (refine ⟨trivial, ?_⟩; gi_at_call 65; refine (CallsIn.inRound l2 (callsIn_wide.2 HCUT.out)).mono ?_; rintro e' w2 ⟨rfl, n2, rfl⟩; have HB2 := Lib.hid (below_drewN (Below.refl W'.heap.size W') n2))
      obtain ⟨W2, hW2⟩ : ∃ W2, W2 = W'.drewN n2 := ⟨_, rfl⟩
      rw [← hW2] at HB2 ⊢
      have y1 := cell_later HB2.out HCE.out
      have z2 := (C2.out.kept (Rng.grownBy_of_below HB2.out) (by simp)).cell
      have z3 := (C3.out.kept (Rng.grownBy_of_below HB2.out) (by simp)).cell
      have f2 := (C2.out.kept (Rng.grownBy_of_below HB2.out) (by simp)).frozen
      have f3 := (C3.out.kept (Rng.grownBy_of_below HB2.out) (by simp)).frozen
      clear hW2
      have HB2' := Lib.hid (below_draw HB2.out 1)
      have y1d := drew_cell y1
      have z2d := drew_cell z2
      have z3d := drew_cell z3
      have f2d : W2.drew.frozen? ⟨w.heap.size, 0, none⟩ = false := f2
      have f3d : W2.drew.frozen? ⟨w.heap.size + 1, 0, none⟩ = false := f3
      have hev : ev (er 0) = .iface 348 (.pointer (some (er 0))) := rfl
      have hgl : 1 < w.heap.size := cell_lt HE.out.errs.s0.1
      have hgn : 1 ≠ w.heap.size := by omega
      have hgm : 1 ≠ w.heap.size + 1 := by omega
      gi_region_with (fail)
      all_goals gi_wp2
      all_goals (
        have MMC : mvC1 x = 0 + 1 := by rw [HMC.out]; simp
        have hX : Rng.Stay (fun b => b = w.heap.size ∨ b = w.heap.size + 1 ∨ b = w.heap.size + 1 + 1 ∨ b = w.heap.size + 1 + 1 + 1) W0.heap.size W0 W2.drew := HST.out.trans ((Rng.Stay.of_below (show Below W'.heap.size W' W2.drew from HB2'.out)).mono (fun _ _ h => h) (by have := HST.out.size; omega))
        have hR : Rng.Rest W0.heap.size W' W2.drew := fun b o hb hbo _ => by rw [(show Below W'.heap.size W' W2.drew from HB2'.out).block b (Array.getElem?_eq_some_iff.1 hbo).1]; exact hbo
        have hzz := HZ.out
        have g2 := C2.out.kept (Rng.grownBy_of_below (show Below W'.heap.size W' W2.drew from HB2'.out)) (by simp)
        have g3 := C3.out.kept (Rng.grownBy_of_below (show Below W'.heap.size W' W2.drew from HB2'.out)) (by simp)
        exact ⟨rest_set (rest_set hR ⟨w.heap.size, 0, none⟩ (by show w.heap.size < _; omega) _) ⟨w.heap.size + 1, 0, none⟩ (by show w.heap.size + 1 < _; omega) _,
          0, ⟨(g2.set _).other (by omega) _, (g3.other (by omega) _).set _⟩,
          (hX.setCell (p := ⟨w.heap.size, 0, none⟩) (.inl (.inl rfl)) CL2.out _).setCell (p := ⟨w.heap.size + 1, 0, none⟩) (.inl (.inr (.inl rfl))) CL3.out _,
          rfl, pre.map (·.1), x, by simp, HALL.out, MMC⟩)
    | true =>
      cases qa with
      | succ qa =>
        gi_wp2_with (first
          | (refine ⟨trivial, ?_⟩; gi_at_call 65; refine (CallsIn.inRound l2 (callsIn_wide.2 HCUT.out)).mono ?_; rintro e' w2 ⟨rfl, n2, rfl⟩; have HB2 := Lib.hid (below_drewN (Below.refl W'.heap.size W') n2))
          | (refine ⟨trivial, ?_⟩; gi_at_call 186; refine (CallsIn.inRound l2 (callsIn_wide.2 (HRA.out _ HB2.out))).mono ?_; rintro e' w3 ⟨rfl, hb3⟩; have hb23 := HB2.out.trans (hb3.mono HB2.out.size); have z2 := (C2.out.kept (Rng.grownBy_of_below hb23) (by simp)).cell; have z3 := (C3.out.kept (Rng.grownBy_of_below hb23) (by simp)).cell; have f2 := (C2.out.kept (Rng.grownBy_of_below hb23) (by simp)).frozen; have f3 := (C3.out.kept (Rng.grownBy_of_below hb23) (by simp)).frozen; have HB3 := Lib.hid hb23; clear hb3 hb23; simp only [errV]))
        have MMC : mvC1 x = qa + 1 := by rw [HMC.out]; simp
        have hX : Rng.Stay (fun b => b = w.heap.size ∨ b = w.heap.size + 1 ∨ b = w.heap.size + 1 + 1 ∨ b = w.heap.size + 1 + 1 + 1) W0.heap.size W0 w3 := HST.out.trans ((Rng.Stay.of_below HB3.out).mono (fun _ _ h => h) (by have := HST.out.size; omega))
        have hR : Rng.Rest W0.heap.size W' w3 := fun b o hb hbo _ => by rw [HB3.out.block b (Array.getElem?_eq_some_iff.1 hbo).1]; exact hbo
        have hzz := HZ.out
        have g2 := C2.out.kept (Rng.grownBy_of_below HB3.out) (by simp)
        have g3 := C3.out.kept (Rng.grownBy_of_below HB3.out) (by simp)
        exact ⟨rest_set (rest_set hR ⟨w.heap.size, 0, none⟩ (by show w.heap.size < _; omega) _) ⟨w.heap.size + 1, 0, none⟩ (by show w.heap.size + 1 < _; omega) _,
          qa, ⟨(g2.set _).other (by omega) _, (g3.other (by omega) _).set _⟩,
          (hX.setCell (p := ⟨w.heap.size, 0, none⟩) (.inl (.inl rfl)) CL2.out _).setCell (p := ⟨w.heap.size + 1, 0, none⟩) (.inl (.inr (.inl rfl))) CL3.out _,
          rfl, pre.map (·.1), x, by simp, HALL.out, MMC⟩
      | zero =>
        cases qb with
        | succ qb =>
          gi_wp2_with (first
            | (refine ⟨trivial, ?_⟩; gi_at_call 65; refine (CallsIn.inRound l2 (callsIn_wide.2 HCUT.out)).mono ?_; rintro e' w2 ⟨rfl, n2, rfl⟩; have HB2 := Lib.hid (below_drewN (Below.refl W'.heap.size W') n2))
            | (refine ⟨trivial, ?_⟩; gi_at_call 186; (with_reducible refine (CallsIn.inRound l2 (callsIn_wide.2 (HRA.out _ HB2.out))).mono ?_); rintro e' w3 ⟨rfl, hb3⟩; have HB3 := Lib.hid (HB2.out.trans (hb3.mono HB2.out.size)); clear hb3; simp only [errV])
            | (refine ⟨trivial, ?_⟩; gi_at_call 186; (with_reducible refine (CallsIn.inRound l2 (callsIn_wide.2 (HRB.out _ HB3.out))).mono ?_); rintro e' w4 ⟨rfl, hb4⟩; have hb24 := HB3.out.trans (hb4.mono HB3.out.size); have z2 := (C2.out.kept (Rng.grownBy_of_below hb24) (by simp)).cell; have z3 := (C3.out.kept (Rng.grownBy_of_below hb24) (by simp)).cell; have f2 := (C2.out.kept (Rng.grownBy_of_below hb24) (by simp)).frozen; have f3 := (C3.out.kept (Rng.grownBy_of_below hb24) (by simp)).frozen; have HB4 := Lib.hid hb24; clear hb4 hb24; simp only [errV]))
          have MMC : mvC1 x = qb + 1 := by rw [HMC.out]; simp
          have hX : Rng.Stay (fun b => b = w.heap.size ∨ b = w.heap.size + 1 ∨ b = w.heap.size + 1 + 1 ∨ b = w.heap.size + 1 + 1 + 1) W0.heap.size W0 w4 := HST.out.trans ((Rng.Stay.of_below HB4.out).mono (fun _ _ h => h) (by have := HST.out.size; omega))
          have hR : Rng.Rest W0.heap.size W' w4 := fun b o hb hbo _ => by rw [HB4.out.block b (Array.getElem?_eq_some_iff.1 hbo).1]; exact hbo
          have hzz := HZ.out
          have g2 := C2.out.kept (Rng.grownBy_of_below HB4.out) (by simp)
          have g3 := C3.out.kept (Rng.grownBy_of_below HB4.out) (by simp)
          exact ⟨rest_set (rest_set hR ⟨w.heap.size, 0, none⟩ (by show w.heap.size < _; omega) _) ⟨w.heap.size + 1, 0, none⟩ (by show w.heap.size + 1 < _; omega) _,
            qb, ⟨(g2.set _).other (by omega) _, (g3.other (by omega) _).set _⟩,
            (hX.setCell (p := ⟨w.heap.size, 0, none⟩) (.inl (.inl rfl)) CL2.out _).setCell (p := ⟨w.heap.size + 1, 0, none⟩) (.inl (.inr (.inl rfl))) CL3.out _,
            rfl, pre.map (·.1), x, by simp, HALL.out, MMC⟩
        | zero =>
          obtain ⟨L, hL⟩ : ∃ L, mvV (pre.map (·.1)) = L := ⟨_, rfl⟩
          rw [hL] at HOWN HB HLEN
          have HL := Lib.hid hL
          have hlen2 := HLEN.out
          clear hL
          gi_wp2_with (first
            | (refine ⟨trivial, ?_⟩; gi_at_call 65; refine (CallsIn.inRound l2 (callsIn_wide.2 HCUT.out)).mono ?_; rintro e' w2 ⟨rfl, n2, rfl⟩; have HB2 := Lib.hid (below_drewN (Below.refl W'.heap.size W') n2))
            | (refine ⟨trivial, ?_⟩; gi_at_call 186; (with_reducible refine (CallsIn.inRound l2 (callsIn_wide.2 (HRA.out _ HB2.out))).mono ?_); rintro e' w3 ⟨rfl, hb3⟩; have HB3 := Lib.hid (HB2.out.trans (hb3.mono HB2.out.size)); clear hb3; simp only [errV])
            | (refine ⟨trivial, ?_⟩; gi_at_call 186; (with_reducible refine (CallsIn.inRound l2 (callsIn_wide.2 (HRB.out _ HB3.out))).mono ?_); rintro e' w4 ⟨rfl, hb4⟩; have hb24 := HB3.out.trans (hb4.mono HB3.out.size); have z4 := (HB.out.kept (Rng.grownBy_of_below hb24) (by simp)).cell; have f4 := (HB.out.kept (Rng.grownBy_of_below hb24) (by simp)).frozen; have hs2 := hb24.size; have HB4 := Lib.hid hb24; clear hb4 hb24; simp only [errV])
            | (gi_at_builtin
               refine wpListIn_append_own _ rfl (.tmp 42) (.tmp 46) _ rfl hi 95 i0 _ 2 16 Tryz.underlying38 hi0 hz0 hz1 hz2 rfl (by omega) (.slice a L.length c) L.length (cellsM L) rfl
                 ((own_below HOWN.out HB4.out).alloc _) ⟨w4.heap.size, 0, none⟩ 1 1 [.int .i64 xa, .int .i64 xb] rfl rfl
                 (fun j u hu => by
                   match j, hu with
                   | 0, hu => cases hu; exact cell_of (heap_new w4 _) rfl
                   | 1, hu => cases hu; exact cell_of (heap_new w4 _) rfl
                   | j + 2, hu => cases hu) (fun u hu => by simp at hu; rcases hu with rfl | rfl <;> rfl) (by simp only [maxLen]; omega) (by omega) (by have := HSZ.out; simp; omega) ?_
               intro v1 wz hown' hg hnil
               have hap := holdsM_append (x := (xa, xb)) (O := (fun b => b = w.heap.size ∨ b = w.heap.size + 1 ∨ b = w.heap.size + 1 + 1)) (HB.out.kept (Rng.grownBy_of_below HB4.out) (by simp)) (own_below HOWN.out HB4.out) (.inr (.inr rfl)) hown' hg
               obtain ⟨a1, c1, e1⟩ := own_at hown'
               subst e1
               have z1 := hap.1.cell
               have z2 := hap.1.frozen
               have HAP := Lib.hid hap
               have hkp : ∀ (b : Nat) (t : TypeId) (u : Value), Boxed W' b t u → b < hi → Boxed wz b t u := fun b t u hb hlt => ((hb.kept (Rng.grownBy_of_below HB4.out) (by simp)).alloc _).kept hg (fun e => by have := ownBlock_ge HOWN.out e.symm; omega)
               have HKP := Lib.hid hkp
               clear hown' hg hnil hap hkp))
          have hs2 := (Rng.Stay.of_below HB4.out).trans HAP.out.2.2
          have hzz := HZ.out
          have hh2 := HHI.out
          refine ⟨hs2.mono (fun _ _ h => h) (by omega), ⟨⟨(HKP.out _ _ _ C2.out (by omega)).other (by omega) _, (HKP.out _ _ _ C3.out (by omega)).other (by omega) _⟩, ?_, Nat.le_trans HSZ.out hs2.size⟩, HST.out.trans (hs2.mono (fun b _ h => ?_) (by omega)), ?_⟩
          · have hl : mvV ((pre ++ [(⟨x, hxs⟩ : {x : ByteArray // x.size ≤ s.size})]).map (·.1)) = L ++ [(xa, xb)] := by
              rw [List.map_append]
              show mvV (pre.map (·.1) ++ [x]) = _
              unfold mvV; rw [List.map_append, List.map_singleton, HMV.out]; have h := HL.out; unfold mvV at h; rw [h]
            rw [hl]; exact HAP.out.2.1
          · rcases h with h | h | h
            · exact .inl h
            · exact .inr (.inl h)
            · exact .inr (.inr (.inl h))
          · intro z hz
            rw [List.map_append] at hz
            rcases List.mem_append.1 hz with hz | hz
            · exact HALL.out z hz
            · simp at hz; subst hz; rw [HMC.out]; simp
  case done =>
    rintro D hi xs W' hD hDh hxs ⟨⟨⟨c2, c3⟩, hh, hsz⟩, hst, hall⟩ hK
    rw [hxs] at hh hall
    obtain ⟨a, c, hbx, hown⟩ := holdsM_reads hh
    have y2 := c2.cell
    have y3 := c3.cell
    have y4 := hbx.cell
    have f2 := c2.frozen
    have f3 := c3.frozen
    have HST := Lib.hid hst
    have HK := Lib.hid hK
    have C2 := Lib.hid c2
    have C3 := Lib.hid c3
    have HOWN := Lib.hid hown
    have HHZ := Lib.hid hz
    have HALL := Lib.hid hall
    have CL2 := Lib.hid (cl b2)
    have CL3 := Lib.hid (cl b3)
    clear hst hK c2 c3 hown hbx hh hz hall cl
    obtain ⟨L, hL⟩ : ∃ L, mvV (pieces 44 s) = L := ⟨_, rfl⟩
    rw [hL] at y4 HOWN
    have HL := Lib.hid hL
    clear hL
    gi_wp2
    have hok : mvC (listP s) = 0 := by rw [HLP.out]; exact mvC_ok HALL.out
    have hdv : mvV (listP s) = L := by rw [HLP.out]; exact HL.out
    have g1 : Boxed ((W'.setCell ⟨w.heap.size, 0, none⟩ (.slice a L.length c)).setCell ⟨w.heap.size + 1, 0, none⟩ .nilIface) w.heap.size 38 (.slice a L.length c) := (C2.out.set _).other (by omega) _
    have g2 : Boxed ((W'.setCell ⟨w.heap.size, 0, none⟩ (.slice a L.length c)).setCell ⟨w.heap.size + 1, 0, none⟩ .nilIface) (w.heap.size + 1) 60 .nilIface := (C3.out.other (by omega) _).set _
    have hz := HHZ.out
    have hK : ((W'.setCell ⟨w.heap.size, 0, none⟩ (.slice a L.length c)).setCell ⟨w.heap.size + 1, 0, none⟩ .nilIface).heap[D]? = some (.deferred (some [])) := by
      rw [Below.heap_setCell _ _ _ _ (by show D ≠ w.heap.size + 1; omega), Below.heap_setCell _ _ _ _ (by show D ≠ w.heap.size; omega)]; exact HK.out
    have ho2 := ownM_far (u := .nilIface) (p := ⟨w.heap.size + 1, 0, none⟩) (ownM_far (u := .slice a L.length c) (p := ⟨w.heap.size, 0, none⟩) HOWN.out (by show w.heap.size < hi; omega)) (by show w.heap.size + 1 < hi; omega)
    have hst2 := (HST.out.setCell (p := ⟨w.heap.size, 0, none⟩) (.inl (.inl rfl)) CL2.out (.slice a L.length c)).setCell (p := ⟨w.heap.size + 1, 0, none⟩) (.inl (.inr (.inl rfl))) CL3.out .nilIface
    refine ⟨by simp, .inl ⟨_, _, rfl, run_takeDeferred hK, ?_⟩⟩
    have r1 := (g1.kept (grownBy_putObj' _ D (.deferred none)) (by simp; omega)).cell
    have r2 := (g2.kept (grownBy_putObj' _ D (.deferred none)) (by simp; omega)).cell
    have hb := (stay_below hst2 (B := w.heap.size) (fun b h => by omega) (by omega) (by omega))
    refine ⟨.tuple #[.slice a L.length c, .nilIface], ?_, _, by rw [hok]; rfl, (fun h => absurd hok h), fun _ => ?_, ?_⟩
    · simp [results, Tryz.f190, go_sem, r1, r2]
    · rw [hdv]; exact ⟨mreads_own (ownsRow_putObj ho2 _ hK rfl) rfl, fun b o n c h => by have := ownBlock_ge HOWN.out (r := b) (by rw [h]; rfl); omega⟩
    · exact (hBw.trans hb).trans (belowK_b (w := w) (Nat.le_refl _) _ D _ _ (by omega) hK rfl rfl)
  case stop =>
    rintro D hi c pre W' hD hDh hpre ⟨q, ⟨c2, c3⟩, hst, rfl, p, x, hpx, hp, hx⟩ hK
    have hok : mvC (listP s) = q + 1 := by
      obtain ⟨t, ht⟩ := hpre
      rw [hpx] at ht
      rw [HLP.out, ← ht, List.append_assoc, ← hx]
      exact mvC_bad hp (by rw [hx]; omega)
    have HOK := Lib.hid hok
    clear hx hok
    gi_wp2
    refine ⟨by simp, .inl ⟨_, _, rfl, run_takeDeferred hK, ?_⟩⟩
    have r1 := (c2.kept (grownBy_putObj' W' D (.deferred none)) (by simp; omega)).cell
    have r2 := (c3.kept (grownBy_putObj' W' D (.deferred none)) (by simp; omega)).cell
    have hb := (stay_below hst (B := w.heap.size) (fun b h => by omega) (by omega) (by omega))
    refine ⟨.tuple #[.slice none 0 0, ev (er q)], ?_, _, by rw [HOK.out]; rfl, (fun _ => rfl), (fun h => by rw [HOK.out] at h; cases h), ?_⟩
    · simp [results, Tryz.f190, go_sem, r1, r2, ev]
    · exact (hBw.trans hb).trans (belowK_b (w := w) (Nat.le_refl _) W' D _ _ (by omega) hK rfl rfl)
end Evt
end Go.Proofs.YtghkalamlcfnnaaGreatDoor
