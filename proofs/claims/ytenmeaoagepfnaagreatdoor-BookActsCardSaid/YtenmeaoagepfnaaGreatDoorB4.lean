/- BkActs, BkLongA: texts joined. -/
import Derived.Test.YtenmeaoagepfnaaGreatDoorOpenEvents
import Derived.Test.YtenmeaoagepfnaaGreatDoorBkRef
import Derived.Deep.CutRange
section
/- Acts on a calendar as values; a slice of them as an argument, opened; the law's longActs. -/
namespace Go.Proofs.YtenmeaoagepfnaaGreatDoor
open Go Go.ChangeShapes Go.WideShapes Go.RowKit Go.Deep Lmd
attribute [local go_sem] Oper.semAt_some
namespace Bk
open Evt

/-- an act -/
structure ActV where
  kind : ByteArray
  x : EvV
  id : ByteArray
def zA : ActV := ⟨⟨#[]⟩, zV, ⟨#[]⟩⟩
def ela (xs : List ActV) (i : Nat) : ActV := xs[i]?.getD zA
theorem ela_lt {xs : List ActV} {i : Nat} (h : i < xs.length) : ela xs i = xs[i] := by simp [ela, h]
theorem ela_mem {xs : List ActV} {i : Nat} (h : i < xs.length) : ela xs i ∈ xs := by rw [ela_lt h]; exact List.getElem_mem h
theorem ela_take {xs : List ActV} {k : Nat} (h : k < xs.length) : xs.take (k + 1) = xs.take k ++ [ela xs k] := by
  rw [List.take_succ_eq_append_getElem h, ela_lt h]
theorem mem_ela {xs : List ActV} {x : ActV} : x ∈ xs ↔ ∃ i, i < xs.length ∧ ela xs i = x := by
  rw [List.mem_iff_getElem]
  constructor
  · rintro ⟨i, h, e⟩; exact ⟨i, h, by rw [ela_lt h]; exact e⟩
  · rintro ⟨i, h, e⟩; exact ⟨i, h, by rw [← ela_lt h]; exact e⟩
/-- an act's cells, from a place of a row on -/
structure At13 (W : World) (b o : Nat) (y : ActV) : Prop where
  k : W.cell? ⟨b, o, none⟩ = some (.string y.kind)
  e : At11 W b (o + 1) y.x
  i : W.cell? ⟨b, o + 12, none⟩ = some (.string y.id)
theorem At13.below {w w' : World} {b o : Nat} {x : ActV} (h : At13 w b o x) (hb : Below w.heap.size w w') : At13 w' b o x := ⟨cell_later hb h.k, h.e.below hb, cell_later hb h.i⟩
/-- a slice of acts -/
def AReads (W : World) (v : Value) (xs : List ActV) : Prop :=
  (xs = [] ∧ ∃ a c, v = .slice a 0 c) ∨ ∃ b off c, v = .slice (some ⟨b, off, none⟩) xs.length c ∧ ∀ j, j < xs.length → At13 W b (off + j * 13) (ela xs j) ∧ (ela xs j).x.rv W
theorem AReads.shape {w : World} {v : Value} {xs : List ActV} (h : AReads w v xs) : ∃ a c, v = .slice a xs.length c := by
  rcases h with ⟨rfl, a, c, rfl⟩ | ⟨b, off, c, rfl, _⟩
  · exact ⟨a, c, rfl⟩
  · exact ⟨_, c, rfl⟩
theorem AReads.at {w : World} {a : Option Addr} {n cap : Nat} {xs : List ActV} (h : AReads w (.slice a n cap) xs) (hx : xs ≠ []) :
    n = xs.length ∧ ∃ b off, a = some ⟨b, off, none⟩ ∧ ∀ j, j < xs.length → At13 w b (off + j * 13) (ela xs j) ∧ (ela xs j).x.rv w := by
  rcases h with ⟨rfl, _⟩ | ⟨b, off, cap', e, hc⟩
  · exact absurd rfl hx
  · cases e; exact ⟨rfl, b, off, rfl, hc⟩
theorem AReads.below {w w' : World} {v : Value} {xs : List ActV} (h : AReads w v xs) (hb : Below w.heap.size w w') : AReads w' v xs := by
  rcases h with h | ⟨b, off, c, rfl, hc⟩
  · exact .inl h
  · exact .inr ⟨b, off, c, rfl, fun j hj => ⟨(hc j hj).1.below hb, (hc j hj).2.below hb⟩⟩
abbrev ActV.cs (y : ActV) : List Value := .string y.kind :: (y.x.cs ++ [.string y.id])
theorem at13_of {w : World} {b o : Nat} {y : ActV} (h : ∀ i u, y.cs[i]? = some u → w.cell? ⟨b, o + i, none⟩ = some u) : At13 w b o y :=
  ⟨h 0 _ rfl, at11_of fun i u hu => by
    have hi : i < 11 := (List.getElem?_eq_some_iff.1 hu).1
    have h1 := h (i + 1) u (by
      show (y.x.cs ++ [Value.string y.id])[i]? = some u
      rw [List.getElem?_append_left (by show i < 11; exact hi)]; exact hu)
    rw [Nat.add_assoc, Nat.add_comm 1 i]; exact h1, h 12 _ rfl⟩
section
variable {H : Type} {enc : TypeId × Value → H} {W : World} {base : Nat}
set_option maxRecDepth 100000 in
theorem trod_act {fuel : Nat} {cs : List Value} {x : DataW H × List MemPlace} (h : DataW.trod enc Tryz.prog W base (fun _ => true) true fuel 37 cs = some x) :
    ∃ y : ActV, cs = y.cs ∧ y.x.rv W ∧ Fin64 y.x.e ∧ y.id.size ≤ 9223372036854775807 := by
  obtain ⟨xs, n, _, _, hl, hlen, hf⟩ := DataW.trod_struct Tryz.underlying37 h
  have hC : Tryz.prog.cellsOf 37 = 13 := by kernel_rfl
  rw [hC] at hl
  have cS : Tryz.prog.cellsOf 9 = 1 := by kernel_rfl
  have cE : Tryz.prog.cellsOf 35 = 11 := by kernel_rfl
  have h0 := hf 0 _ rfl
  have h1 := hf 1 _ rfl
  have h2 := hf 2 _ rfl
  change DataW.trod enc _ W base _ _ n 9 (List.take (Tryz.prog.cellsOf 9) (List.drop 0 cs)) = xs[0]? at h0
  change DataW.trod enc _ W base _ _ n 35 (List.take (Tryz.prog.cellsOf 35) (List.drop 1 cs)) = xs[1]? at h1
  change DataW.trod enc _ W base _ _ n 9 (List.take (Tryz.prog.cellsOf 9) (List.drop 12 cs)) = xs[2]? at h2
  rw [cS] at h0 h2
  rw [cE] at h1
  match cs, hl with
  | [a0, a1, a2, a3, a4, a5, a6, a7, a8, a9, a10, a11, a12], _ =>
    match xs, hlen with
    | [y0, y1, y2], _ =>
      simp only [List.drop_zero, List.drop_succ_cons, List.take_succ_cons, List.take_zero, List.getElem?_cons_zero, List.getElem?_cons_succ] at h0 h1 h2
      obtain ⟨s0, e0, _, _⟩ := DataW.trod_string Tryz.underlying9 h0
      obtain ⟨e, vd, vs, vm, e1, hrv, hfn⟩ := trod_event h1
      obtain ⟨s2, e2, _, z2⟩ := DataW.trod_string Tryz.underlying9 h2
      simp only [List.cons.injEq, and_true] at e0 e1 e2
      obtain ⟨f0, f1, f2, f3, f4, f5, f6, f7, f8, f9, f10⟩ := e1
      subst e0 e2 f0 f1 f2 f3 f4 f5 f6 f7 f8 f9 f10
      exact ⟨⟨s0, ⟨e, _, _, _⟩, s2⟩, rfl, hrv, hfn, Nat.le_trans z2 (Nat.le_refl _)⟩
set_option maxRecDepth 100000 in
theorem open_acts {v : Value} {d : DataW H} {p : List MemPlace} {r : Reach} {b0 : Nat} (hv : Value.okWide Tryz.prog W r b0 22 v) (h : DataW.Trod enc Tryz.prog W base (fun _ => true) true 22 v d p) :
    ∃ xs : List ActV, AReads W v xs ∧ xs.length ≤ 9223372036854775807 ∧ ∀ x ∈ xs, Fin64 x.x.e ∧ x.id.size ≤ 9223372036854775807 := by
  obtain ⟨a0, l0, c0, rfl⟩ := okWide_slice Tryz.underlying22 hv
  obtain ⟨fuel, hf⟩ := h
  have hC : Tryz.prog.cellsOf 37 = 13 := by kernel_rfl
  have hm : maxLen ≤ 9223372036854775807 := Nat.le_refl _
  rcases open_slice Tryz.underlying22 hf with ⟨hcs, _⟩ | ⟨a, len, cap, m, n, D, Pl, hcs, _, hl, hc, hmm, _, hi⟩
  · simp [Value.cells] at hcs
    obtain ⟨rfl, rfl, rfl⟩ := hcs
    exact ⟨[], .inl ⟨rfl, _, _, rfl⟩, by simp, by simp⟩
  · simp [Value.cells] at hcs
    obtain ⟨rfl, rfl, rfl⟩ := hcs
    simp only [if_true] at hmm
    have hex : ∀ i, i < l0 → ∃ y : ActV, (∀ j u, y.cs[j]? = some u → W.cell? (a.add (i * 13 + j)) = some u) ∧ y.x.rv W ∧ Fin64 y.x.e ∧ y.id.size ≤ 9223372036854775807 := by
      intro i hil
      obtain ⟨cs', h1, h2⟩ := hi i (by omega)
      rw [hC] at h1
      obtain ⟨y, rfl, hrv, hfn, hz⟩ := trod_act h2
      obtain ⟨_, _, h3⟩ := World.cells?_some h1
      refine ⟨y, fun j u hu => ?_, hrv, hfn, hz⟩
      have hj : j < 13 := (List.getElem?_eq_some_iff.1 hu).1
      have := h3 j (by omega)
      rw [add_add] at this
      rw [this]; exact hu
    by_cases h0 : l0 = 0
    · subst h0
      exact ⟨[], .inl ⟨rfl, _, _, rfl⟩, by simp, by simp⟩
    · obtain ⟨b, o, sn⟩ := a
      have hs : sn = none := by
        obtain ⟨y, hy, _⟩ := hex 0 (by omega)
        have h1 := hy 0 _ rfl
        unfold Addr.add World.cell? at h1
        simp only [Nat.zero_mul, Nat.add_zero, if_true] at h1
        split at h1
        · split at h1
          · cases h1
          · rename_i hh; simpa using hh
        · cases h1
      subst hs
      simp only [Evt.add_plain] at hex
      have hch : ∃ f : Nat → ActV, ∀ i, i < l0 → (∀ j u, (f i).cs[j]? = some u → W.cell? ⟨b, o + (i * 13 + j), none⟩ = some u) ∧ (f i).x.rv W ∧ Fin64 (f i).x.e ∧ (f i).id.size ≤ 9223372036854775807 :=
        ⟨fun i => if h : i < l0 then Classical.choose (hex i h) else zA, fun i h => by
          simp only [dif_pos h]; exact Classical.choose_spec (hex i h)⟩
      obtain ⟨f, hf'⟩ := hch
      have hel : ∀ j, j < l0 → ela ((List.range l0).map f) j = f j := fun j hj => by
        rw [ela_lt (by simpa using hj)]; simp
      refine ⟨(List.range l0).map f, .inr ⟨b, o, c0, by simp, fun j hj => ?_⟩, by simp; omega, fun x hx => ?_⟩
      · have hj' : j < l0 := by simpa using hj
        rw [hel j hj']
        refine ⟨at13_of fun i u hu => ?_, (hf' j hj').2.1⟩
        rw [Nat.add_assoc]; exact (hf' j hj').1 i u hu
      · obtain ⟨i, hi2, rfl⟩ := List.mem_map.1 hx
        exact (hf' i (by simpa using hi2)).2.2
end
end Bk
end Go.Proofs.YtenmeaoagepfnaaGreatDoor
end

section
/- The law's longActs. -/
namespace Go.Proofs.YtenmeaoagepfnaaGreatDoor
open Go Go.RowKit Go.Shelf Lmd
attribute [local go_sem] Oper.semAt_some
namespace Bk
open Evt Tp Rul Day Cand Er

set_option maxRecDepth 100000 in
set_option maxHeartbeats 4000000 in
theorem longActs_any (xs : List ActV) (v : Value) (w : World) (hr : AReads w v xs) (hf : ∀ x ∈ xs, Fin64 x.x.e ∧ x.id.size ≤ 9223372036854775807) :
    Calls Tryz.prog 13 #[v] w fun r w' => ∃ q : Bool, r = .returned (.bool q) ∧ (q = false → xs.length ≤ 90 ∧ ∀ x ∈ xs, ¬ LongP x.x.e) ∧ Below w.heap.size w w' := by
  obtain ⟨a, cap, rfl⟩ := hr.shape
  obtain ⟨n, hn⟩ : ∃ n, xs.length = n := ⟨_, rfl⟩
  rw [hn] at hr ⊢
  by_cases hbig : (90 : Int) < (n : Int)
  · clear hr hf
    go_enter Tryz.func13, Tryz.ntmps13
    go_wp2
    go_ret
    exact ⟨true, rfl, (fun h => by cases h), Below.refl _ _⟩
  have hle : n ≤ 90 := by omega
  have HR := Lib.hid hr
  have HN := Lib.hid hn
  have HF := Lib.hid hf
  clear hr hn hf
  go_enter Tryz.func13, Tryz.ntmps13
  go_wp2_with fail
  go_loopw [3] (fun i wr => ∃ k : Nat, k ≤ n ∧ i = .int .i64 (k : Int) ∧ Below w.heap.size w wr ∧ ∀ j, j < k → ¬ LongP (ela xs j).x.e) (fun i _ => n - (intOf i).toNat)
  case atStart => exact ⟨0, Nat.zero_le _, rfl, Below.refl _ _, fun _ h => absurd h (Nat.not_lt_zero _)⟩
  case round =>
    obtain ⟨k, hk, rfl, hbr, hs⟩ := hrel
    have HS := Lib.hid hs
    have hrr := HR.out.below hbr
    have HBR := Lib.hid hbr
    clear hs hbr
    by_cases hlt : k < n
    · obtain ⟨-, b, o, ha, hc⟩ := hrr.at (by intro h; have := HN.out; rw [h] at this; simp at this; omega)
      subst ha
      obtain ⟨⟨ck, ⟨c0, c1', c2, c3', c4, c5, c6, c7, c8, c9, c10⟩, ci⟩, hrv⟩ := hc k (by rw [HN.out]; exact hlt)
      have hfx := HF.out _ (ela_mem (xs := xs) (i := k) (by rw [HN.out]; exact hlt))
      obtain ⟨y, hx⟩ : ∃ y, ela xs k = y := ⟨_, rfl⟩
      rw [hx] at ck c0 c1' c2 c3' c4 c5 c6 c7 c8 c9 c10 ci hrv hfx
      obtain ⟨kd, ⟨e, vd, vs, vm⟩, id⟩ := y
      dsimp only at ck c0 c1' c2 c3' c4 c5 c6 c7 c8 c9 c10 ci hfx
      change Rv wr e vd vs vm at hrv
      obtain ⟨a6, c6', rfl⟩ := hrv.d.shape
      obtain ⟨a9, c9', rfl⟩ := hrv.s.shape
      obtain ⟨a10, c10', rfl⟩ := hrv.m.shape
      obtain ⟨la, hla⟩ : ∃ la : Int, (if LongP e then (1 : Int) else 0) = la := ⟨_, rfl⟩
      have hlo := longEvent_any e _ _ _ wr hrv hfx.1
      rw [hla] at hlo
      have hci := fun W' (h : Below wr.heap.size wr W') => cell_later h ci
      have HLA := Lib.hid hla
      have HLO := Lib.hid hlo
      have HX := Lib.hid hx
      have HCI := Lib.hid hci
      clear hla hlo hc hrr hx hrv hfx hci
      go_upto_region 6 with fail
      go_cut [28] from 13 (fun s wc => s = .bool (decide (0 < la) || decide ((30 : Int) < (id.size : Int))) ∧ Below w.heap.size w wc)
      case first =>
        go_wp2_with fail
        (with_reducible refine HLO.out.mono ?_)
        rintro e1 w1 ⟨rfl, hb1⟩
        have ci1 := HCI.out _ hb1
        have HB1 := Lib.hid (HBR.out.trans (hb1.mono HBR.out.size))
        clear hb1
        by_cases h0 : 0 < la
        · go_wp2_with fail
          go_meet
          exact ⟨by rw [decide_eq_true (show 0 < la by omega), Bool.true_or], HB1.out⟩
        · by_cases h1 : (30 : Int) < (id.size : Int)
          · go_wp2_with fail
            go_meet
            exact ⟨by rw [decide_eq_true (show (30 : Int) < (id.size : Int) by omega), Bool.or_true], HB1.out⟩
          · go_wp2_with fail
            go_meet
            exact ⟨by rw [decide_eq_false (show ¬ 0 < la by omega), decide_eq_false (show ¬ (30 : Int) < (id.size : Int) by omega), Bool.or_self], HB1.out⟩
      case rest =>
        obtain ⟨rfl, hbd⟩ := hcut
        have HBD := Lib.hid hbd
        clear hbd ck c0 c1' c2 c3' c4 c5 c6 c7 c8 c9 c10 ci
        obtain ⟨q, hq⟩ : ∃ q, (decide (0 < la) || decide ((30 : Int) < (id.size : Int))) = q := ⟨_, rfl⟩
        rw [hq]
        cases q with
        | true =>
          clear hq
          go_wp2
          go_ret
          exact ⟨true, rfl, (fun h => by cases h), HBD.out⟩
        | false =>
          have hla : ¬ 0 < la := by
            intro h
            rw [decide_eq_true h, Bool.true_or] at hq
            cases hq
          have HNL := Lib.hid (show ¬ LongP e by
            intro h
            have := HLA.out
            rw [if_pos h] at this
            omega)
          clear hq hla
          go_wp2
          go_roundw
          case rel => exact ⟨k + 1, by omega, by go_num, HBD.out, fun j hj => by
            by_cases ej : j = k
            · subst ej; rw [HX.out]; exact HNL.out
            · exact HS.out j (by omega)⟩
          case measure => simp [intOf]; omega
    · obtain rfl : k = n := by omega
      go_wp2
      go_ret
      exact ⟨false, rfl, fun _ => ⟨hle, fun x hx => by
        obtain ⟨j, hj, rfl⟩ := mem_ela.1 hx
        exact HS.out j (by rw [← HN.out]; exact hj)⟩, HBR.out⟩
end Bk
end Go.Proofs.YtenmeaoagepfnaaGreatDoor
end
