/- package merge: Three. -/
import Derived.Test.YtghkalamlcfnnaaGreatDoorQMgH
import Derived.Test.YtghkalamlcfnnaaGreatDoorQMgS
namespace Go.Proofs.YtghkalamlcfnnaaGreatDoor
open Go Go.RowKit Go.Shelf Lmd
open Go.Proofs (encStr)
attribute [local go_sem] Oper.semAt_some
namespace Mg
open Evt Bk Df Rul Day Cand Er Tp
open Txs (kids RowS rowS_own cells_kids els els_lt)
theorem sc_own {w : World} {base n : Nat} {T : TypeId} {v : Value} {l : List Value} (h : w.ownsRow base T 1 v n l) (h1 : ∀ u ∈ l, u.oneCell' = true) : ScOk w ⟨v, n, l⟩ := by
  rcases h.2 with ⟨rfl, rfl⟩ | ⟨g, cap, cur, rfl, _, hh, hn, _, hs, ht⟩
  · refine .inl ⟨rfl, ?_, 0, rfl⟩
    have := h.1
    exact List.length_eq_zero_iff.1 (by omega)
  · refine .inr ⟨⟨g, 0, none⟩, cap, rfl, by have := h.1; show l.length = n; omega, fun j u hu => ?_, h1⟩
    have hu' : l[j]? = some u := hu
    have hj : j < n := by have := (List.getElem?_eq_some_iff.1 hu').1; have := h.1; omega
    rw [Evt.add_plain, Nat.zero_add]
    rw [← ht, Nat.mul_one, List.getElem?_take_of_lt hj] at hu'
    simp only [World.cell?, hh]
    simpa using hu'
theorem rowS_below {w w' : World} {v : Value} {xs : List (List UInt8)} (h : RowS w v xs) (hb : Below w.heap.size w w') : RowS w' v xs := by
  rcases h with h | ⟨g, off, cap, t, cur, rfl, h1, hh, hH⟩
  · exact .inl h
  · have hr := row_below hh hb
    refine .inr ⟨g, off, cap, t, cur, rfl, h1, hr, fun j hj => ?_⟩
    have := hH j hj
    simp only [World.cell?, World.frozen?] at this ⊢
    rw [hr]
    rw [hh] at this
    exact this
theorem three_snoc (x y z : List Ev) (id : ByteArray) : ∀ (U : List ByteArray) (out : List Ev) (bad : List (ByteArray × ByteArray)), threeM x y z (U ++ [id]) out bad =
    ((oneM x y z id.data.toList (threeM x y z U out bad).1).2, (threeM x y z U out bad).2 ++ (oneM x y z id.data.toList (threeM x y z U out bad).1).1.map fun f => (id, f))
  | [], _, _ => rfl
  | i :: U, out, bad => by
    show threeM x y z (U ++ [id]) _ _ = _
    rw [three_snoc x y z id U]; rfl
theorem mixB_few (x y z : Ev) : (mixB x y z).length ≤ 6 := by
  have h := flds_few x y z fieldL y []
  have h6 : fieldL.length = 6 := rfl
  unfold mixB
  split
  · simp
  · simp only [List.length_nil] at h; omega
theorem one_few (x y z : List Ev) (k : List UInt8) (out : List Ev) : (oneM x y z k out).1.length ≤ 6 := by
  unfold oneM
  repeat' split
  all_goals first
    | exact Nat.zero_le _
    | exact mixB_few _ _ _
    | (show 1 ≤ 6; omega)
theorem three_few (x y z : List Ev) : ∀ (U : List ByteArray) (out : List Ev) (bad : List (ByteArray × ByteArray)), (threeM x y z U out bad).2.length ≤ bad.length + 6 * U.length
  | [], out, bad => by simp [threeM]
  | id :: U, out, bad => by
    unfold threeM
    refine Nat.le_trans (three_few x y z U _ _) ?_
    have := one_few x y z id.data.toList out
    rw [List.length_append, List.length_map, List.length_cons]; omega
def ThP (w : World) (x y z : List Ev) (r : Ending) (w' : World) : Prop :=
  Below w.heap.size w w' ∧ (if (mergeM x y z).2 = [] then ∃ B, w.heap.size ≤ B ∧ r = .returned (.tuple #[.pointer (some ⟨B + 1, 0, none⟩), .slice none 0 0]) ∧ Book w' B (B + 1) B (mergeM x y z).1
    else ∃ v, r = .returned (.tuple #[.pointer none, v]) ∧ XReads w' v (mergeM x y z).2)
theorem bookO_fit {w : World} {B : Nat} {p : Option Addr} {L : List Ev} (h : BookO w B p L) : (∀ e ∈ L, badE e = 0) ∧ (∀ e ∈ L, Size e) := by
  rcases h with ⟨_, rfl⟩ | ⟨b, m, _, h⟩
  · exact ⟨fun _ h => absurd h List.not_mem_nil, fun _ h => absurd h List.not_mem_nil⟩
  · exact ⟨h.good, h.fit⟩
set_option maxRecDepth 100000 in
set_option maxHeartbeats 16000000 in
theorem three_any (w : World) (B1 : Nat) (p1 : Option Addr) (B2 : Nat) (p2 : Option Addr) (B3 : Nat) (p3 : Option Addr) (x y z : List Ev) (er : Nat → Addr) (n0 : Int) (hv : Env w er n0) (h1 : BookO w B1 p1 x) (h2 : BookO w B2 p2 y) (h3 : BookO w B3 p3 z) :
    Calls Tryz.prog 11 #[.pointer p1, .pointer p2, .pointer p3] w (ThP w x y z) := by
  have f1 := h1.few
  have f2 := h2.few
  have f3 := h3.few
  have hidz : ∀ id ∈ ids3 x y z, id.size ≤ 9223372036854775807 := fun id hid => by
    have key : ∀ {L : List Ev}, (∀ e ∈ L, Size e) → hasK id.data.toList L = true → id.size ≤ 9223372036854775807 := fun {L} hf hk => by
      obtain ⟨m1, m2⟩ := foundE_has hk
      have : (foundE id.data.toList L).id = id := (str_mk _).trans ((congrArg mk m2).trans (str_mk id).symm)
      rw [← this]; exact (hf _ m1).id
    rcases ids3_mem.1 hid with h | h | h
    · exact key (bookO_fit h1).2 h
    · exact key (bookO_fit h2).2 h
    · exact key (bookO_fit h3).2 h
  have HV := Lib.hid hv
  have H1 := Lib.hid h1
  have H2 := Lib.hid h2
  have H3 := Lib.hid h3
  have HF := Lib.hid (And.intro f1 (And.intro f2 f3))
  have HIDZ := Lib.hid hidz
  have HI1 := Lib.hid (ids_or w B1 p1 x h1)
  have HI2 := Lib.hid (fun V (hw : Below w.heap.size w V) => ids_or V B2 p2 y (h2.below hw))
  have HI3 := Lib.hid (fun V (hw : Below w.heap.size w V) => ids_or V B3 p3 z (h3.below hw))
  clear hv h1 h2 h3 f1 f2 f3 hidz
  go_enter Tryz.func11, Tryz.ntmps11
  go_wp2_with fail
  (with_reducible refine HI1.out.mono ?_)
  rintro e1 w1 ⟨v1, rfl, ho1, hb1⟩
  have HO1 := Lib.hid ho1
  have HB1 := Lib.hid hb1
  obtain ⟨a1, c1, rfl⟩ := own_at ho1
  clear ho1 hb1
  go_wp2_with fail
  (with_reducible refine (HI2.out _ HB1.out).mono ?_)
  rintro e2 w2 ⟨v2, rfl, ho2, hb2⟩
  have HO1' := Lib.hid (own_later HO1.out hb2)
  have HO2 := Lib.hid ho2
  have HB2 := Lib.hid (HB1.out.trans (hb2.mono HB1.out.size))
  obtain ⟨a2, c2, rfl⟩ := own_at ho2
  clear ho2 hb2
  go_wp2_with fail
  (with_reducible refine (HI3.out _ HB2.out).mono ?_)
  rintro e3 w3 ⟨v3, rfl, ho3, hb3⟩
  have ho1 := own_later HO1'.out hb3
  have ho2 := own_later HO2.out hb3
  have HB3 := Lib.hid (HB2.out.trans (hb3.mono HB2.out.size))
  obtain ⟨a3, c3, rfl⟩ := own_at ho3
  have hone : ∀ L : List Ev, ∀ u ∈ cellsS (idsB L), u.oneCell' = true := fun L u hu => by
    unfold cellsS at hu
    obtain ⟨_, _, rfl⟩ := List.mem_map.1 hu
    rfl
  obtain ⟨W0, hW0⟩ : ∃ W0, w3.alloc (.cells #[.slice a1 x.length c1, .slice a2 y.length c2, .slice a3 z.length c3] 33) = W0 := ⟨_, rfl⟩
  have hB0 : Below w3.heap.size w3 W0 := by rw [← hW0]; exact (Below.refl _ w3).alloc (Nat.le_refl _) _
  have hx0 : W0.heap[w3.heap.size]? = some (.cells #[.slice a1 x.length c1, .slice a2 y.length c2, .slice a3 z.length c3] 33) := by rw [← hW0]; exact heap_new w3 _
  have hcc := concatS_any [⟨.slice a1 x.length c1, x.length, cellsS (idsB x)⟩, ⟨.slice a2 y.length c2, y.length, cellsS (idsB y)⟩, ⟨.slice a3 z.length c3, z.length, cellsS (idsB z)⟩] w3.heap.size 3 W0 (by simp) (fun k hk => by
      match k, hk with
      | 0, _ => simp [World.cell?, hx0, sc]
      | 1, _ => simp [World.cell?, hx0, sc]
      | 2, _ => simp [World.cell?, hx0, sc]
      | k + 3, hk => simp at hk; omega) (fun s hs => by
      simp only [List.mem_cons, List.not_mem_nil, or_false] at hs
      rcases hs with rfl | rfl | rfl
      · exact (sc_own ho1 (hone x)).below hB0
      · exact (sc_own ho2 (hone y)).below hB0
      · exact (sc_own ho3 (hone z)).below hB0) (fun s hs => by
      have hf := HF.out
      simp only [List.mem_cons, List.not_mem_nil, or_false] at hs
      rcases hs with rfl | rfl | rfl <;> dsimp only <;> omega)
  change Calls _ _ #[.slice (some ⟨w3.heap.size, 0, none⟩) 3 3] _ _ at hcc
  have hsn : scN [⟨.slice a1 x.length c1, x.length, cellsS (idsB x)⟩, ⟨.slice a2 y.length c2, y.length, cellsS (idsB y)⟩, ⟨.slice a3 z.length c3, z.length, cellsS (idsB z)⟩] = (kids x ++ kids y ++ kids z).length := by
    simp [scN, kids] <;> omega
  have hsl : scL [⟨.slice a1 x.length c1, x.length, cellsS (idsB x)⟩, ⟨.slice a2 y.length c2, y.length, cellsS (idsB y)⟩, ⟨.slice a3 z.length c3, z.length, cellsS (idsB z)⟩] = (kids x ++ kids y ++ kids z).map encStr := by
    rw [List.map_append, List.map_append, ← cells_kids, ← cells_kids, ← cells_kids]; simp [scL]
  rw [hsn, hsl] at hcc
  have hal : (kids x ++ kids y ++ kids z).length ≤ 3000 := by
    have := HF.out
    simp only [List.length_append, kids, List.length_map]; omega
  have HCC := Lib.hid hcc
  have HW0 := Lib.hid hW0
  have HB0 := Lib.hid (HB3.out.trans (hB0.mono HB3.out.size))
  obtain ⟨A, hA⟩ : ∃ A, kids x ++ kids y ++ kids z = A := ⟨_, rfl⟩
  rw [hA] at hal HCC
  have HA := Lib.hid hA
  clear hcc hW0 hB0 hx0 hsn hsl ho1 ho2 ho3 hb3 hone hA
  go_wp2_with fail
  rw [HW0.out]
  (with_reducible refine HCC.out.mono ?_)
  rintro e4 w4 ⟨v4, rfl, hown4, hb4⟩
  have hrow4 := rowS_own hown4
  have HB4 := Lib.hid (HB0.out.trans (hb4.mono HB0.out.size))
  have HGE := Lib.hid (fun j (ej : v4.ownBlock = some j) => (Nat.le_trans HB0.out.size (Evt.own_ge hown4 ej) : w.heap.size ≤ j))
  have HSO := Lib.hid (Txs.sort_any v4 _ w4 hrow4 (by omega))
  obtain ⟨a4, c4, e4⟩ := hrow4.shape
  subst e4
  clear hown4 hrow4 hb4
  go_wp2_with fail
  (with_reducible refine HSO.out.mono ?_)
  rintro e5 w5 ⟨rfl, hrow5, hg5⟩
  have HB5 := Lib.hid (HB4.out.grown hg5 HB4.out.size HGE.out)
  have HR5 := Lib.hid hrow5
  have HNEW := Lib.hid (new_any w5)
  clear hrow5 hg5
  go_wp2_with fail
  (with_reducible refine HNEW.out.mono ?_)
  rintro e6 w6 ⟨rfl, hbk6, hb6⟩
  have hrow6 := rowS_below HR5.out hb6
  have HB6 := Lib.hid (HB5.out.trans (hb6.mono HB5.out.size))
  have HCO := Lib.hid (Txs.compact_any _ _ w6 hrow6 (by rw [Txs.sort_len]; omega))
  have hgt : ∀ j, (Value.slice a4 A.length c4).ownBlock = some j → j < w5.heap.size := fun j ej => by
    rcases HR5.out with ⟨_, h⟩ | ⟨g, off, cap, t, cur, h, _, hh, _⟩
    · rw [h] at ej; simp [Value.ownBlock] at ej
    · rw [h] at ej
      simp [Value.ownBlock] at ej
      subst ej
      exact (Array.getElem?_eq_some_iff.1 hh).1
  obtain ⟨B, hB⟩ : ∃ B, w5.heap.size = B := ⟨_, rfl⟩
  have hBw : w.heap.size ≤ B := by rw [← hB]; exact HB5.out.size
  rw [hB] at hbk6 hgt ⊢
  have HBK6 := Lib.hid hbk6
  have HGT := Lib.hid hgt
  have HBW := Lib.hid hBw
  clear hrow6 hb6 hbk6 hgt hB hBw
  go_wp2_with fail
  (with_reducible refine HCO.out.mono ?_)
  rintro e7 w7 ⟨v7, rfl, hrow7, hob7, hg7⟩
  change RowS w7 v7 (Lmd.Cps.uniq A) at hrow7
  have HB7 := Lib.hid (HB6.out.grown hg7 HB6.out.size HGE.out)
  have hws := HB6.out.size
  have hsz6 : B < w6.heap.size := by
    rcases HBK6.out.map with ⟨D, ho, _⟩
    exact ho.lt
  have hbk7 : Book w7 B (B + 1) B [] := by
    have hne : ∀ q, B ≤ q → (Value.slice a4 A.length c4).ownBlock ≠ some q := fun q hq e => by have := HGT.out q e; omega
    cases hob : (Value.slice a4 A.length c4).ownBlock with
    | none =>
      rw [hob] at hg7
      exact HBK6.out.below ⟨hg7.os, hg7.tape, hg7.output, hg7.size, fun k hk => hg7.block k hk (by simp)⟩
    | some q =>
      rw [hob] at hg7
      have hq : q < B := HGT.out q hob
      exact HBK6.out.far ⟨hg7.os, hg7.tape, hg7.output, hg7.size, fun k hk hne => hg7.block k hk (fun e => hne (by injection e))⟩ hq
  have hrd7 := hrow7.cells
  obtain ⟨a7, c7, rfl⟩ := hrow7.shape
  have hids : ids3 x y z = (Lmd.Cps.uniq A).map mk := by unfold ids3; rw [HA.out]
  have hidl := ids3_len x y z
  rw [hids, List.length_map] at hidl
  have hmm : mergeM x y z = threeM x y z ((Lmd.Cps.uniq A).map mk) [] [] := by unfold mergeM; rw [hids]
  have hidz := HIDZ.out
  rw [hids] at hidz
  obtain ⟨U, hU⟩ : ∃ U, Lmd.Cps.uniq A = U := ⟨_, rfl⟩
  rw [hU] at hrd7 hidl hmm hidz ⊢
  obtain ⟨n, hn⟩ : ∃ n, U.length = n := ⟨_, rfl⟩
  rw [hn] at hrd7 hidl ⊢
  have hn180 : n ≤ 180 := by have := HF.out; omega
  have HN := Lib.hid hn
  have HRD := Lib.hid hrd7
  have HMM := Lib.hid hmm
  have HZ := Lib.hid hidz
  have HBK := Lib.hid hbk7
  have HG := Lib.hid (And.intro (bookO_fit H1.out).1 (And.intro (bookO_fit H2.out).1 (bookO_fit H3.out).1))
  have hb7w := HB7.out.size
  have HSZ := Lib.hid (show B < w7.heap.size from Nat.lt_of_lt_of_le hsz6 hg7.size)
  clear hrow7 hob7 hg7 hws hsz6 hbk7 hrd7 hids hidl hmm hidz hU hn hb7w HCO HNEW HSO HCC HI1 HI2 HI3 HR5 HBK6
  go_wp2_with fail
  go_loopw [10, 12, 27] (fun v10 _ i wr => ∃ (k m : Nat) (a8 : Option Addr) (c8 : Nat), k ≤ n ∧ i = .int .i64 (k : Int) ∧ m = (threeM x y z ((U.take k).map mk) [] []).2.length ∧ v10 = .slice a8 m c8 ∧ ((threeM x y z ((U.take k).map mk) [] []).2 = [] → Value.slice a8 m c8 = .slice none 0 0) ∧
    wr.ownsRow w7.heap.size 52 2 (.slice a8 m c8) (threeM x y z ((U.take k).map mk) [] []).2.length (cellsX (threeM x y z ((U.take k).map mk) [] []).2) ∧ Book wr B (B + 1) B (threeM x y z ((U.take k).map mk) [] []).1 ∧ Far (fun q => q = B) w7 wr ∧ AllS wr (.slice a8 m c8)) (fun _ _ i _ => n - (intOf i).toNat)
  case atStart => exact ⟨0, 0, none, 0, Nat.zero_le _, rfl, rfl, rfl, fun _ => rfl, ⟨rfl, .inl ⟨rfl, rfl⟩⟩, HBK.out, Far.refl _ _, allS_nil _⟩
  case round =>
    obtain ⟨k, m, a8, c8, hk, rfl, hm, rfl, hnil, hown, hbk, hfar, hals⟩ := hrel
    have HALS := Lib.hid hals
    clear hals
    have hml : m ≤ 2000 := by
      have h := three_few x y z ((U.take k).map mk) [] []
      have h2 := List.length_take_le k U
      rw [List.length_map, List.length_nil] at h
      omega
    have HM := Lib.hid hm
    have HNIL := Lib.hid hnil
    have HOWN := Lib.hid hown
    have HBR := Lib.hid hbk
    have HFAR := Lib.hid hfar
    have hbw : Below w.heap.size w wr := HB7.out.trans (hfar.below (fun q hq => by rw [hq]; exact HBW.out) HB7.out.size)
    have HBWR := Lib.hid hbw
    clear hm hnil hown hbk hfar hbw
    by_cases hlt : k < n
    · have hkU : k < U.length := by rw [HN.out]; exact hlt
      rcases HRD.out with ⟨h0, _⟩ | ⟨g, off, cap, e1, hc⟩
      · rw [h0] at hkU; exact absurd hkU (Nat.not_lt_zero _)
      · injection e1 with e2 _ e3
        subst e2 e3
        have hgl : g ≠ B := by
          rintro rfl
          have h0 := hc k hlt
          obtain ⟨D, ⟨es, clock, hb, _⟩, _⟩ := HBK.out.map
          simp only [World.cell?, hb] at h0
          cases h0
        have c0 : wr.cell? ⟨g, off + k, none⟩ = some (.string (mk (els U k))) := by
          have h0 := hc k hlt
          have hgs : g < w7.heap.size := cell_lt h0
          simp only [World.cell?] at h0 ⊢
          rw [HFAR.out.block g hgs hgl]; exact h0
        obtain ⟨id, hid⟩ : ∃ id, mk (els U k) = id := ⟨_, rfl⟩
        have htk : (U.take (k + 1)).map mk = (U.take k).map mk ++ [id] := by
          rw [List.take_succ_eq_append_getElem hkU, List.map_append, ← els_lt hkU]
          simp [hid]
        have hsz : id.size ≤ 9223372036854775807 := HZ.out id (by rw [← hid, els_lt hkU]; exact List.mem_map_of_mem (List.getElem_mem hkU))
        rw [hid] at c0
        have hst : threeM x y z ((U.take (k + 1)).map mk) [] [] = ((oneM x y z id.data.toList (threeM x y z ((U.take k).map mk) [] []).1).2, (threeM x y z ((U.take k).map mk) [] []).2 ++ (oneM x y z id.data.toList (threeM x y z ((U.take k).map mk) [] []).1).1.map fun f => (id, f)) := by rw [htk, three_snoc]
        obtain ⟨T, hT⟩ : ∃ T, threeM x y z ((U.take k).map mk) [] [] = T := ⟨_, rfl⟩
        obtain ⟨o, bd⟩ := T
        rw [hT] at HM HNIL HOWN HBR hst
        dsimp only at HM HNIL HOWN HBR hst
        have hfw := one_few x y z id.data.toList o
        have hon := one_any wr B1 p1 B2 p2 B3 p3 B (B + 1) B x y z o id er n0 (HV.out.below HBWR.out) (H1.out.below HBWR.out) (H2.out.below HBWR.out) (H3.out.below HBWR.out) HBR.out HG.out.1 HG.out.2.1 HG.out.2.2 hsz
        unfold OneP at hon
        obtain ⟨R, hR⟩ : ∃ R, oneM x y z id.data.toList o = R := ⟨_, rfl⟩
        obtain ⟨bs, o'⟩ := R
        rw [hR] at hon hst hfw
        dsimp only at hon hst hfw
        have HONE := Lib.hid hon
        have HST := Lib.hid hst
        have HFW := Lib.hid hfw
        clear hc hid htk hsz hst hT hon hR hkU hfw
        go_wp2_with fail
        (with_reducible refine HONE.out.mono ?_)
        rintro e9 w9 ⟨v9, rfl, hx9, hn9, hbk9, hfar9⟩
        obtain ⟨a9, c9, rfl⟩ := hx9.shape
        obtain ⟨mm, hmm⟩ : ∃ q, (bs.map fun f => (id, f)).length = q := ⟨_, rfl⟩
        have hmq : mm ≤ 6 := by rw [← hmm, List.length_map]; exact HFW.out
        have HMQ := Lib.hid hmm
        rw [hmm] at hx9 hn9 ⊢
        have HX9 := Lib.hid hx9
        have HN9 := Lib.hid hn9
        have HOWN9 := Lib.hid (own_farc HOWN.out hfar9 HSZ.out)
        have HALS9 := Lib.hid (HALS.out.kept fun q hq hlt => hfar9.block q hlt (fun e => by have h1 := (HOWN.out.lt q hq).1; have h2 := HSZ.out; omega))
        have HBK9 := Lib.hid hbk9
        have HFAR9 := Lib.hid (HFAR.out.trans hfar9)
        have hs79 : w7.heap.size ≤ w9.heap.size := HFAR9.out.size
        have hbd : bd.length ≤ 3000000 := by rw [← HM.out]; omega
        have HBD := Lib.hid hbd
        clear hx9 hn9 hbk9 hfar9 hmm hbd
        go_wp2_with (
          at_builtin
          refine append_strp rfl (.tmp 31) (.tmp 37) rfl w7.heap.size (.slice a8 m c8) _ bd (bs.map fun f => (id, f)) rfl HOWN9.out HALS9.out rfl HX9.out HBD.out (by rw [HMQ.out]; omega) hs79 ?_
          intro a10 c10 w10 hown10 hb10 hg10 hl10 hn10
          obtain ⟨lq, hlq⟩ : ∃ q, (bd ++ bs.map fun f => (id, f)).length = q := ⟨_, rfl⟩
          rw [hlq] at hown10 hl10 hn10 ⊢
          have HLQ := Lib.hid hlq
          have HO10 := Lib.hid hown10
          have HB10 := Lib.hid hb10
          have HG10 := Lib.hid hg10
          have HN10 := Lib.hid hn10
          have HAL10 := Lib.hid hl10
          clear hown10 hb10 hg10 hl10 hn10 hlq)
        go_roundw
        case rel =>
          have h := HST.out
          have hob : ∀ q, (Value.slice a8 m c8).ownBlock = some q → w7.heap.size ≤ q := fun q hq => (HOWN9.out.lt q hq).1
          have hblt := HSZ.out
          refine ⟨k + 1, lq, a10, c10, by omega, by go_num, by rw [h]; exact HLQ.out.symm, rfl, ?_, by rw [h]; dsimp only; rw [HLQ.out]; exact HO10.out, by rw [h]; exact book_strs HBK9.out HALS9.out HG10.out, ?_, HAL10.out⟩
          · rw [h]
            dsimp only
            intro e
            obtain ⟨e1, e2⟩ := List.append_eq_nil_iff.1 e
            exact HN10.out (HNIL.out e1) e2
          · have hg := HG10.out
            have h9 := HFAR9.out
            exact ⟨hg.os.trans h9.os, hg.tape.trans h9.tape, hg.output.trans h9.output, Nat.le_trans h9.size hg.size, fun q hq hne => (hg.block q (Nat.lt_of_lt_of_le hq h9.size) (fun e => by have := hob q e.symm; omega)).trans (h9.block q hq hne)⟩
        case measure => simp [intOf]; omega
    · obtain rfl : k = n := by omega
      have hall : U.take k = U := List.take_of_length_le (by rw [HN.out]; exact Nat.le_refl _)
      rw [hall] at HM HNIL HOWN HBR
      have hmm := HMM.out
      obtain ⟨T, hT⟩ : ∃ T, threeM x y z (U.map mk) [] [] = T := ⟨_, rfl⟩
      obtain ⟨o, bd⟩ := T
      rw [hT] at HM HNIL HOWN HBR hmm
      dsimp only at HM HNIL HOWN HBR
      by_cases hb : bd = []
      · have hv := HNIL.out hb
        injection hv with hv1 hv2 hv3
        subst hv1 hv2 hv3
        have HMF := Lib.hid hmm
        have HBE := Lib.hid hb
        clear hb hmm hT hall
        go_wp2
        go_ret2
        refine ⟨HBWR.out, ?_⟩
        rw [HMF.out, if_pos HBE.out]
        exact ⟨B, HBW.out, rfl, HBR.out⟩
      · have hmp : 0 < m := by rw [HM.out]; exact List.length_pos_iff.2 hb
        cases a8 with
        | none =>
          exfalso
          rcases HOWN.out.2 with ⟨_, h⟩ | ⟨_, _, _, h, _⟩
          · exact hb (List.length_eq_zero_iff.1 h)
          · cases h
        | some a8 =>
          have HMF := Lib.hid hmm
          have HBE := Lib.hid hb
          clear hb hmm hT hall hmp
          go_wp2
          go_ret2
          refine ⟨HBWR.out, ?_⟩
          rw [HMF.out, if_neg HBE.out]
          exact ⟨_, rfl, xreads_own HOWN.out rfl⟩
end Mg
end Go.Proofs.YtghkalamlcfnnaaGreatDoor
