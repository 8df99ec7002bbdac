/- package merge: tos, to, moves (maps of numbers). -/
import Derived.Test.YtghkalamlcfnnaaGreatDoorQMgB
import Derived.Test.YtghkalamlcfnnaaGreatDoorShelfM
import Derived.Test.YtghkalamlcfnnaaGreatDoorQA14
import Derived.Maps.OwnSet
section
namespace Go.Proofs.YtghkalamlcfnnaaGreatDoor
open Go Go.RowKit Go.Maps Go.Sort Go.Shelf Lmd
attribute [local go_sem] Oper.semAt_some
namespace Mg
open Evt Bk Df Rul Day Cand Er Tp
abbrev kI (f : Int) : Lit := .int .i64 f
theorem lawI : Keyed Tryz.prog 3 := int_keyed Tryz.underlying3
structure TellsI (D : DataW Value) (l : List (Int × Int)) : Prop where
  has : ∀ f, Maps.has D (kI f) = decide (f ∈ froms l)
  val : ∀ f z, f ∈ froms l → D.atKey (kI f) z = .lit (.int .i64 (toI l f))
theorem kI_ne {a b : Int} (h : a ≠ b) : kI a ≠ kI b := fun e => h (by injection e)
theorem toI_snoc {l : List (Int × Int)} {m : Int × Int} (h : m.1 ∉ froms l) (f : Int) : toI (l ++ [m]) f = if f = m.1 then m.2 else toI l f := by
  unfold toI
  rw [List.find?_append]
  by_cases hf : f = m.1
  · subst hf
    have hn : l.find? (fun x => decide (x.1 = m.1)) = none := by
      rw [List.find?_eq_none]
      intro x hx hd
      exact h (List.mem_map.2 ⟨x, hx, of_decide_eq_true hd⟩)
    rw [hn, if_pos rfl]; simp
  · rw [if_neg hf]
    have hm : [m].find? (fun x => decide (x.1 = f)) = none := by
      rw [List.find?_eq_none]
      intro x hx hd
      simp at hx; subst hx
      exact hf (of_decide_eq_true hd).symm
    rw [hm, Option.or_none]
theorem TellsI.put {D : DataW Value} {l : List (Int × Int)} (h : TellsI D l) (hD : Maps.IsMap D) {m : Int × Int} (hm : m.1 ∉ froms l) : TellsI (D.put (kI m.1) (.lit (.int .i64 m.2))) (l ++ [m]) := by
  have hk : WideAt.IsKeyLit (kI m.1) := trivial
  have hfr : froms (l ++ [m]) = froms l ++ [m.1] := by simp [froms]
  refine ⟨fun f => ?_, fun f z hf => ?_⟩
  · rw [hfr]
    by_cases e : f = m.1
    · subst e; rw [Maps.has_put_same hD hk]; simp
    · rw [Maps.has_put_other (kI_ne e), h.has]; simp [e]
  · rw [toI_snoc hm]
    by_cases e : f = m.1
    · subst e; rw [Maps.atKey_put_same hD hk, if_pos rfl]
    · rw [Maps.atKey_put_other (kI_ne e), if_neg e]
      rw [hfr] at hf
      refine h.val f z ?_
      rcases List.mem_append.1 hf with hf | hf
      · exact hf
      · simp at hf; exact absurd hf e
def InD (a : Int) : Prop := -1 ≤ a ∧ a ≤ 1000000
theorem wfD {a : Int} (h : InD a) : (Lit.int .i64 a).wf = true := by
  obtain ⟨h1, h2⟩ := h
  exact (Lit.wf_int_iff .i64 a).2 ⟨by show (-9223372036854775808 : Int) ≤ a; omega, by show a ≤ (9223372036854775807 : Int); omega⟩
theorem keyD {a : Int} (h : InD a) : keyOf Tryz.prog 3 (.int .i64 a) = some (kI a) := keyOf_int_mk Tryz.underlying3 (wfD h)
def MapI (W : World) (b : Nat) (l : List (Int × Int)) : Prop := ∃ D : DataW Value, W.ownsMap Tryz.prog 3 (plainElem Tryz.prog 3) b l.length D ∧ TellsI D l
theorem MapI.below {w w' : World} {b : Nat} {l : List (Int × Int)} (h : MapI w b l) (hb : Below w.heap.size w w') : MapI w' b l := by
  obtain ⟨D, h1, h2⟩ := h
  exact ⟨D, h1.kept (row := none) ⟨hb.os, hb.tape, hb.output, hb.size, fun k hk _ => hb.block k hk⟩ (by simp), h2⟩
theorem zeroI (W : World) : (zeroValue 3).run Tryz.prog W = .ok (.int .i64 0) W := by kernel_rfl
set_option maxRecDepth 100000 in
theorem to_any (b : Nat) (l : List (Int × Int)) (f : Int) (w : World) (h : MapI w b l) (hf : InD f) :
    Calls Tryz.prog 245 #[.map (some b), .int .i64 f] w fun r w' => r = .returned (.int .i64 (toI l f)) ∧ w' = w := by
  obtain ⟨D, hown, hT⟩ := h
  have hkey := keyD hf
  have hh := hT.has f
  have hv := hT.val f
  have hno : f ∉ froms l → toI l f = -1 := fun hn => by
    unfold toI
    have : l.find? (fun m => decide (m.1 = f)) = none := by
      rw [List.find?_eq_none]
      intro x hx hd
      exact hn (List.mem_map.2 ⟨x, hx, of_decide_eq_true hd⟩)
    rw [this]
  have HV := Lib.hid hv
  have HNO := Lib.hid hno
  clear hv hT hno
  go_enter Tryz.func245, Tryz.ntmps245
  by_cases hin : f ∈ froms l
  · rw [decide_eq_true hin] at hh
    have hat2 := HV.out (.lit (.int .i64 0)) hin
    have HAT := Lib.hid hat2
    clear hat2 hin
    go_wp2_with (
      at_lookup
      refine wpList_lookup_own_ok_int _ rfl _ _ 291 rfl 3 3 .i64 lawI Tryz.underlying291 Tryz.underlying3 (zeroI _) b l.length D rfl hown _ (kI f) rfl hkey ?_
      intro c hat hwc
      rw [HAT.out] at hat
      rw [hh]
      obtain rfl : toI l f = c := by injection hat with hat; injection hat
      clear hat hwc)
    go_ret
    exact ⟨rfl, rfl⟩
  · rw [decide_eq_false hin] at hh
    have HN := Lib.hid (HNO.out hin)
    clear hin
    go_wp2_with (
      at_lookup
      refine wpList_lookup_own_ok_int _ rfl _ _ 291 rfl 3 3 .i64 lawI Tryz.underlying291 Tryz.underlying3 (zeroI _) b l.length D rfl hown _ (kI f) rfl hkey ?_
      intro c hat hwc
      rw [hh]
      clear hat hwc)
    go_ret
    exact ⟨by rw [HN.out]; rfl, rfl⟩
set_option maxRecDepth 100000 in
set_option maxHeartbeats 4000000 in
theorem tos_any (v : Value) (l : List (Int × Int)) (w : World) (hr : MReads w v l) (hn : (froms l).Nodup) (hd : ∀ m ∈ l, InD m.1 ∧ InD m.2) (hl : l.length ≤ 1000) :
    Calls Tryz.prog 239 #[v] w fun r w' => ∃ b, r = .returned (.map (some b)) ∧ w.heap.size ≤ b ∧ MapI w' b l ∧ Below w.heap.size w w' := by
  obtain ⟨a, c, rfl⟩ := hr.shape
  obtain ⟨n, hnn⟩ : ∃ n, l.length = n := ⟨_, rfl⟩
  rw [hnn] at hl ⊢
  rw [hnn] at hr
  obtain ⟨W0, hW0⟩ : ∃ W0, w.alloc (.map #[] 0) = W0 := ⟨_, rfl⟩
  have hB0 : Below w.heap.size w W0 := by rw [← hW0]; exact (Below.refl _ w).alloc (Nat.le_refl _) _
  have hm0 : W0.ownsMap Tryz.prog 3 (plainElem Tryz.prog 3) w.heap.size 0 (.map [] : DataW Value) := by rw [← hW0]; exact World.ownsMap_made w _ _ _
  have HR0 := Lib.hid hr
  have HR := Lib.hid (hr.below hB0)
  have HND := Lib.hid hn
  have HD := Lib.hid hd
  have HB0 := Lib.hid hB0
  have HM0 := Lib.hid hm0
  have HW0 := Lib.hid hW0
  have HNN := Lib.hid hnn
  have hmm := @run_makeMap Tryz.prog
  clear hr hn hd hB0 hm0 hW0 hnn
  go_enter Tryz.func239, Tryz.ntmps239
  go_upto_region 2 with fail
  rw [HW0.out]
  go_wp2_with fail
  go_loopw [5, 9] (fun _ i wr => ∃ (k : Nat) (D : DataW Value), k ≤ n ∧ i = .int .i64 (k : Int) ∧ wr.ownsMap Tryz.prog 3 (plainElem Tryz.prog 3) w.heap.size k D ∧ TellsI D (l.take k) ∧ Below w.heap.size w wr ∧ MReads wr (.slice a n c) l) (fun _ i _ => n - (intOf i).toNat)
  case atStart => exact ⟨0, .map [], Nat.zero_le _, rfl, HM0.out, ⟨fun f => rfl, fun f z h => absurd h (by simp [froms])⟩, HB0.out, HR.out⟩
  case round =>
    obtain ⟨k, D, hk, rfl, hown, hT, hb, hrd⟩ := hrel
    have HRD := Lib.hid hrd
    have HOWN := Lib.hid hown
    have HT := Lib.hid hT
    have HB := Lib.hid hb
    clear hown hT hb hrd
    by_cases hlt : k < n
    · have hkl : k < l.length := by rw [HNN.out]; exact hlt
      have hst : l.take (k + 1) = l.take k ++ [ml l k] := by rw [List.take_succ_eq_append_getElem hkl, ml_lt hkl]
      have hmem : ml l k ∈ l := by rw [ml_lt hkl]; exact List.getElem_mem hkl
      obtain ⟨d1, d2⟩ := HD.out _ hmem
      have hnew : (ml l k).1 ∉ froms (l.take k) := by
        intro hin
        have h1 := HND.out
        have h2 : froms l = froms (l.take k) ++ (ml l k).1 :: froms (l.drop (k + 1)) := by
          have e : l = l.take k ++ l[k] :: l.drop (k + 1) := by rw [← List.drop_eq_getElem_cons hkl, List.take_append_drop]
          rw [ml_lt hkl]
          unfold froms
          exact (congrArg (List.map Prod.fst) e).trans (by rw [List.map_append, List.map_cons])
        rw [h2] at h1
        exact (List.pairwise_append.1 h1).2.2 _ hin _ (List.mem_cons_self ..) rfl
      have hput := HT.out.put HOWN.out.isMap hnew
      obtain ⟨-, b, o, rfl, hcc⟩ := HRD.out.at (by intro h; rw [h] at hkl; exact absurd hkl (Nat.not_lt_zero _))
      obtain ⟨c0, c1⟩ := hcc k hkl
      obtain ⟨m, hm⟩ : ∃ m, ml l k = m := ⟨_, rfl⟩
      rw [hm] at hst c0 c1 d1 d2 hput
      rw [← hst] at hput
      have HPUT := Lib.hid hput
      have hkey := keyD d1
      have hval := plainElem_int (H := Value) Tryz.underlying3 (wfD d2)
      have HVAL := Lib.hid hval
      have HOWN2 := Lib.hid (HOWN.out.alloc (.cells #[.int .i64 m.1, .int .i64 m.2] 95))
      have hw1 := HB.out.size
      have hk1000 : k < 1000 := by omega
      have hx := heap_new wr (.cells #[.int .i64 m.1, .int .i64 m.2] 95)
      have k0 : (wr.alloc (.cells #[.int .i64 m.1, .int .i64 m.2] 95)).cell? ⟨wr.heap.size, 0, none⟩ = some (.int .i64 m.1) := cell_of hx rfl
      have k1 : (wr.alloc (.cells #[.int .i64 m.1, .int .i64 m.2] 95)).cell? ⟨wr.heap.size, 1, none⟩ = some (.int .i64 m.2) := cell_of hx rfl
      clear hst hmem hnew hput hcc hm hkl hval d1 d2 hx
      go_wp2_with (
        at_mapUpdate
        refine wpList_mapUpdate_own _ rfl (.tmp 13) (.tmp 15) (.tmp 17) 291 rfl 3 3 lawI Tryz.underlying291 _ w.heap.size k D rfl HOWN2.out (by simp only [maxLen]; omega) _ _ (kI m.1) rfl rfl hkey _ [] HVAL.out ?_
        intro w9 hown9 hg9
        have HO9 := Lib.hid hown9
        have HB9 := Lib.hid ((HB.out.alloc hw1 _).grown hg9 (Nat.le_trans hw1 (by simp)) (fun j ej => by injection ej with ej; omega))
        clear hown9 hg9)
      go_roundw
      case rel =>
        refine ⟨k + 1, _, by omega, by go_num, HO9.out, HPUT.out, HB9.out, HR0.out.below HB9.out⟩
      case measure => simp [intOf]; omega
    · obtain rfl : k = n := by omega
      have hall : l.take k = l := List.take_of_length_le (by rw [HNN.out]; exact Nat.le_refl _)
      rw [hall] at HT
      clear hall
      go_wp2
      go_ret
      exact ⟨_, rfl, Nat.le_refl _, ⟨D, by rw [HNN.out]; exact HOWN.out, HT.out⟩, HB.out⟩
theorem sortsI (m : Nat) : AnyZI.SortsIn Tryz.prog Tryz.sortedI_ren Fence.wide m :=
  ⟨fun blk off cap ss W hH hblk hsz => callsIn_wide.2 (AnyM.slices_Sort_int Tryz.sortIm blk off cap ss W hH hblk hsz),
   fun p cap W => callsIn_wide.2 (AnyM.slices_Sort_int_none Tryz.sortIm p cap W)⟩
theorem maps_KeysI (mb : Option Nat) (W : World) : Calls Tryz.prog 243 #[.map mb] W fun e w' => e = .returned (.func (.func 271) #[] #[.pointer (some ⟨W.heap.size, 0, none⟩)]) ∧ w' = W.alloc (.cells #[.map mb] 291) :=
  (callsIn_wide (n := 5)).1 (AnyZI.keys_in Tryz.keysI Fence.wide 5 trivial rfl mb W)
set_option maxHeartbeats 1000000 in
theorem sorted_KeysI {H : Type} (b nn : Nat) (D0 : DataW H) (R : Value → Option (DataW H × List MemPlace)) (w : World) (hown : w.ownsMap Tryz.prog 3 R b nn D0) (hmax : Maps.size D0 ≤ maxLen) (hbytes : Maps.size D0 * 8 ≤ 140737488355328) :
    Calls Tryz.prog 242 #[.func (.func 271) #[] #[.pointer (some ⟨w.heap.size, 0, none⟩)]] (w.alloc (.cells #[.map (some b)] 291)) fun e w' => ∃ (v : Value) (ss : List Int), e = .returned v ∧ ss.Perm (intKeys D0) ∧
      w'.ownsRow (w.alloc (.cells #[.map (some b)] 291)).heap.size 3 1 v ss.length ((ss.mergeSort (fun x y => decide (x ≤ y))).map encZ) ∧ (v = .slice none 0 0 ↔ ss = []) ∧ RowKit.Below (w.alloc (.cells #[.map (some b)] 291)).heap.size (w.alloc (.cells #[.map (some b)] 291)) w' := by
  have hbl := hown.lt
  have hseq : SeqGives Fence.wide 2 Tryz.prog 271 #[.pointer (some ⟨w.heap.size, 0, none⟩)] encZ (fun ss => ss.Perm (intKeys D0)) (Maps.size D0) (w.alloc (.cells #[.map (some b)] 291)) :=
    AnyZI.keys_gives (ρ := Tryz.keysI_ren) { Tryz.keysI with } Fence.wide _ trivial rfl (by omega) w.heap.size b nn D0 _ (by simp) (by simp) (by
      obtain ⟨es, clock, hb, Ft, hs, hD⟩ := hown
      exact ⟨es, clock, (RowKit.Below.heap_alloc _ _ b hbl).trans hb, Ft, hs, hD⟩)
  exact (callsIn_wide (n := 5)).1 (AnyZI.sorted_in Tryz.sortedI Fence.wide 5 trivial trivial trivial trivial rfl (by omega) (sortsI _) (enters_of Tryz.func207 (by kernel_rfl) rfl) 271 #[.pointer (some ⟨w.heap.size, 0, none⟩)] trivial (enters_of Tryz.func271 (by kernel_rfl) rfl) _ _ hmax hbytes _ hseq)
theorem keysI_all {w : World} {b n : Nat} {D : DataW Value} {A : List Int} (hown : w.ownsMap Tryz.prog 3 (plainElem Tryz.prog 3) b n D) (h : ∀ f, Maps.has D (kI f) = decide (f ∈ A)) {ss : List Int} (hp : ss.Perm (intKeys D)) :
    (ss.mergeSort (fun x y => decide (x ≤ y))).map encZ = cellsOf (Lmd.Cpt.uniq A) ∧ ss.length = (Lmd.Cpt.uniq A).length := by
  obtain ⟨es, hD, hk⟩ := hown.keysOf
  have hT : Maps.Tidy D := hown.tidy lawI
  have hr := Lmd.Cpt.uniq_rise A
  have hnd : (Lmd.Cpt.uniq A).Nodup := hr.imp fun {a b} (h : a < b) (e : a = b) => by omega
  have h1 : (Lmd.Cpt.uniq A).Perm (intKeys D) := by
    subst hD
    obtain ⟨es', he', hne⟩ := hT
    obtain rfl : es = es' := by injection he'
    refine perm_intKeys hne (fun p hp => ?_) hnd fun x => ?_
    · obtain ⟨k, hk⟩ := hk p hp
      obtain ⟨x, _, hx, _⟩ := Maps.keyOf_i64 Tryz.underlying3 hk
      exact ⟨x, hx⟩
    · rw [h, Lmd.Cpt.uniq_mem, decide_eq_true_iff]
  have h2 := hp.trans h1.symm
  have h3 : (Lmd.Cpt.uniq A).mergeSort leI = Lmd.Cpt.uniq A := by
    have tr : ∀ a b c : Int, leI a b = true → leI b c = true → leI a c = true := fun a b c h1 h2 => by simp only [leI, decide_eq_true_eq] at *; omega
    have tot : ∀ a b : Int, (leI a b || leI b a) = true := fun a b => by simp only [leI, Bool.or_eq_true, decide_eq_true_eq]; omega
    refine List.Perm.eq_of_pairwise (le := fun a b => leI a b = true) (fun a b _ _ h1 h2 => ?_) (List.pairwise_mergeSort tr tot _) ?_ (List.mergeSort_perm _ leI)
    · simp only [leI, decide_eq_true_eq] at h1 h2; omega
    · refine hr.imp fun {a b} hl => ?_
      simp only [leI, decide_eq_true_eq]; omega
  refine ⟨?_, h2.length_eq⟩
  show (ss.mergeSort leI).map encZ = _
  rw [mergeSort_of_perm_i h2, h3]
  refine List.ext_getElem? fun j => ?_
  by_cases hj : j < (Lmd.Cpt.uniq A).length
  · rw [cellsOf_get hj, List.getElem?_map, List.getElem?_eq_getElem hj, Ints.el_lt hj]; rfl
  · rw [List.getElem?_eq_none (by rw [List.length_map]; omega), List.getElem?_eq_none (by rw [cellsOf_len]; omega)]
theorem has_fold {k : Lit} : ∀ (es : List (Lit × DataW Value)) (D : DataW Value), Maps.IsMap D → (∀ p ∈ es, ∃ x : Int, p.1 = kI x) → Maps.has (es.foldl (fun D p => D.put p.1 p.2) D) k = (Maps.has D k || es.any fun p => p.1.sameKey k)
  | [], D, _, _ => by simp
  | p :: t, D, hD, hk => by
    obtain ⟨x, hx⟩ := hk p (List.mem_cons_self ..)
    have hl : WideAt.IsKeyLit p.1 := by rw [hx]; trivial
    show Maps.has (t.foldl _ (D.put p.1 p.2)) k = _
    rw [has_fold t _ (hD.put _ _) (fun q hq => hk q (List.mem_cons_of_mem _ hq)), List.any_cons]
    by_cases e : k = p.1
    · subst e
      rw [Maps.has_put_same hD hl, WideAt.sameKey_self hl]; simp
    · rw [Maps.has_put_other e, Maps.sameKey_ne (fun e' => e e'.symm)]; simp
theorem has_merge {w : World} {b n : Nat} {Dd Ds : DataW Value} (hd : Maps.IsMap Dd) (hs : w.ownsMap Tryz.prog 3 (plainElem Tryz.prog 3) b n Ds) (k : Lit) : Maps.has (Lib.mergeD Dd Ds) k = (Maps.has Dd k || Maps.has Ds k) := by
  obtain ⟨es, rfl, hk⟩ := hs.keysOf
  refine has_fold es Dd hd fun p hp => ?_
  obtain ⟨v, hv⟩ := hk p hp
  obtain ⟨x, _, hx, _⟩ := Maps.keyOf_i64 Tryz.underlying3 hv
  exact ⟨x, hx⟩
def KeysI (W : World) (b n : Nat) (A : List Int) : Prop := ∃ D : DataW Value, W.ownsMap Tryz.prog 3 (plainElem Tryz.prog 3) b n D ∧ ∀ f, Maps.has D (kI f) = decide (f ∈ A)
theorem cloneI_any (b : Nat) (l : List (Int × Int)) (w : World) (h : MapI w b l) :
    Calls Tryz.prog 240 #[.map (some b)] w fun r w' => r = .returned (.map (some w.heap.size)) ∧ KeysI w' w.heap.size l.length (froms l) ∧ RowKit.Below w.heap.size w w' := by
  obtain ⟨D, ⟨es, clock, hb, Ft, hs, hD⟩, hT⟩ := h
  refine (AnyW.maps_Clone Tryz.cloneI b es clock w hb).mono fun e w' ⟨he, hw⟩ => ?_
  subst hw
  exact ⟨he, ⟨D, ⟨es, clock, heap_new w _, Ft, hs, hD⟩, hT.has⟩, (RowKit.Below.refl _ w).alloc (Nat.le_refl _) _⟩
theorem copyI_any (bd n : Nat) (A : List Int) (b : Nat) (l : List (Int × Int)) (w : World) (hd : KeysI w bd n A) (h : MapI w b l) (hne : bd ≠ b) (hn : n ≤ 10000) (hl : l.length ≤ 1000) :
    Calls Tryz.prog 241 #[.map (some bd), .map (some b)] w fun r w' => r = .returned (.tuple #[]) ∧ KeysI w' bd (n + l.length) (A ++ froms l) ∧ w.grownBy w' (some bd) := by
  obtain ⟨Dd, hd, hA⟩ := hd
  obtain ⟨Ds, hs, hT⟩ := h
  have hsz := hs.size_le
  refine (AnyX.maps_Copy Tryz.copyI lawI (plainElem Tryz.prog 3) bd b n l.length Dd Ds w hd hs hne (by simp only [maxLen]; omega)).mono fun e w' ⟨he, h1, _, h3⟩ => ?_
  refine ⟨he, ⟨_, h1.mono (by omega), fun f => ?_⟩, h3⟩
  rw [has_merge hd.isMap hs, hA, hT.has]
  simp
end Mg
end Go.Proofs.YtghkalamlcfnnaaGreatDoor
end
section
namespace Go.Proofs.YtghkalamlcfnnaaGreatDoor
open Go Go.RowKit Go.Shelf Lmd
attribute [local go_sem] Oper.semAt_some
namespace Mg
open Evt Bk Df Rul Day Cand Er Tp
theorem mvK_len (x y z : List (Int × Int)) : ∀ (l : List Int) (o : List (Int × Int)), (mvK x y z l o).1.length ≤ l.length + o.length
  | [], o => by simp [mvK]
  | f :: t, o => by
    unfold mvK
    split
    · simp
    · refine Nat.le_trans (mvK_len x y z t _) ?_
      split
      · simp; omega
      · simp
def MvP (w : World) (x y z : List (Int × Int)) (r : Ending) (w' : World) : Prop :=
  ∃ v, r = .returned (.tuple #[v, .bool (mvM x y z).2]) ∧ MReads w' v (mvM x y z).1 ∧ From w.heap.size v ∧ Below w.heap.size w w'
set_option maxRecDepth 100000 in
set_option maxHeartbeats 8000000 in
theorem moves_any (v1 v2 v3 : Value) (x y z : List (Int × Int)) (w : World) (h1 : MReads w v1 x) (h2 : MReads w v2 y) (h3 : MReads w v3 z) (n1 : (froms x).Nodup) (n2 : (froms y).Nodup) (n3 : (froms z).Nodup)
    (d1 : ∀ m ∈ x, InD m.1 ∧ InD m.2) (d2 : ∀ m ∈ y, InD m.1 ∧ InD m.2) (d3 : ∀ m ∈ z, InD m.1 ∧ InD m.2) (l1 : x.length ≤ 1000) (l2 : y.length ≤ 1000) (l3 : z.length ≤ 1000) :
    Calls Tryz.prog 193 #[v1, v2, v3] w (MvP w x y z) := by
  have HT1 := Lib.hid (tos_any v1 x w h1 n1 d1 l1)
  have HT2 := Lib.hid (fun W (hw : Below w.heap.size w W) => tos_any v2 y W (h2.below hw) n2 d2 l2)
  have HT3 := Lib.hid (fun W (hw : Below w.heap.size w W) => tos_any v3 z W (h3.below hw) n3 d3 l3)
  have HL := Lib.hid (And.intro l1 (And.intro l2 l3))
  have hdu : ∀ f ∈ fromsU x y z, InD f := fun f hf => by
    have h := fu_mem.1 hf
    rcases List.mem_append.1 h with h | h
    · rcases List.mem_append.1 h with h | h
      · obtain ⟨m, hm, rfl⟩ := List.mem_map.1 h; exact (d1 m hm).1
      · obtain ⟨m, hm, rfl⟩ := List.mem_map.1 h; exact (d2 m hm).1
    · obtain ⟨m, hm, rfl⟩ := List.mem_map.1 h; exact (d3 m hm).1
  have HDU := Lib.hid hdu
  clear h1 h2 h3 n1 n2 n3 d1 d2 d3 l1 l2 l3 hdu
  go_enter Tryz.func193, Tryz.ntmps193
  go_wp2_with fail
  (with_reducible refine HT1.out.mono ?_)
  rintro e1 w1 ⟨b1, rfl, hge1, hm1, hb1⟩
  have HB1 := Lib.hid hb1
  have HM1 := Lib.hid hm1
  have HG1 := Lib.hid hge1
  clear hm1 hb1 hge1
  go_wp2_with fail
  (with_reducible refine (HT2.out _ HB1.out).mono ?_)
  rintro e2 w2 ⟨b2, rfl, hge2, hm2, hb2⟩
  have HB2 := Lib.hid (HB1.out.trans (hb2.mono HB1.out.size))
  have HM1' := Lib.hid (HM1.out.below hb2)
  have HM2 := Lib.hid hm2
  have HG2 := Lib.hid (Nat.le_trans HB1.out.size hge2)
  clear hm2 hb2 hge2
  go_wp2_with fail
  (with_reducible refine (HT3.out _ HB2.out).mono ?_)
  rintro e3 w3 ⟨b3, rfl, hge3, hm3, hb3⟩
  have HB3 := Lib.hid (HB2.out.trans (hb3.mono HB2.out.size))
  have HM1b := Lib.hid (HM1'.out.below hb3)
  have HM2b := Lib.hid (HM2.out.below hb3)
  have HM3 := Lib.hid hm3
  have HG3 := Lib.hid (Nat.le_trans HB2.out.size hge3)
  have HCL := Lib.hid (cloneI_any b1 x w3 HM1b.out)
  clear hm3 hb3 hge3
  go_wp2_with fail
  (with_reducible refine HCL.out.mono ?_)
  rintro e4 w4 ⟨rfl, hk4, hb4⟩
  obtain ⟨D1, ho1, hT1⟩ := HM1b.out
  obtain ⟨D2, ho2, hT2⟩ := HM2b.out
  obtain ⟨D3, ho3, hT3⟩ := HM3.out
  have hlt1 := ho1.lt
  have hlt2 := ho2.lt
  have hlt3 := ho3.lt
  obtain ⟨ba, hba⟩ : ∃ b, w3.heap.size = b := ⟨_, rfl⟩
  have hM1c := HM1b.out.below hb4
  have hM2c := HM2b.out.below hb4
  have hM3c := HM3.out.below hb4
  rw [hba] at hk4 hlt1 hlt2 hlt3 ⊢
  have hbaw : w.heap.size ≤ ba := by rw [← hba]; exact HB3.out.size
  have HN := Lib.hid (show ba ≠ b1 ∧ ba ≠ b2 ∧ ba ≠ b3 ∧ w.heap.size ≤ ba from ⟨by omega, by omega, by omega, hbaw⟩)
  have HB4 := Lib.hid (HB3.out.trans (hb4.mono HB3.out.size))
  have HM1d := Lib.hid hM1c
  have HM2d := Lib.hid hM2c
  have HM3d := Lib.hid hM3c
  have HCP := Lib.hid (copyI_any ba x.length (froms x) b2 y w4 hk4 hM2c (by omega) (by have := HL.out.1; omega) HL.out.2.1)
  clear hk4 hb4 ho1 ho2 ho3 hT1 hT2 hT3 hlt1 hlt2 hlt3 hba hM1c hM2c hM3c hbaw
  go_wp2_with fail
  (with_reducible refine HCP.out.mono ?_)
  rintro e5 w5 ⟨rfl, hk5, hg5⟩
  have mk5 : ∀ {b : Nat} {l : List (Int × Int)}, ba ≠ b → MapI w4 b l → MapI w5 b l := fun hne ⟨D, h1, h2⟩ => ⟨D, h1.kept hg5 (fun e => hne (by injection e with e; exact e.symm)), h2⟩
  have HM1e := Lib.hid (mk5 HN.out.1 HM1d.out)
  have HM2e := Lib.hid (mk5 HN.out.2.1 HM2d.out)
  have HM3e := Lib.hid (mk5 HN.out.2.2.1 HM3d.out)
  have HB5 := Lib.hid (HB4.out.grown hg5 HB4.out.size (fun j ej => by injection ej with ej; rw [← ej]; exact HN.out.2.2.2))
  have HCP2 := Lib.hid (copyI_any ba (x.length + y.length) (froms x ++ froms y) b3 z w5 hk5 HM3e.out HN.out.2.2.1 (by have := HL.out; omega) HL.out.2.2)
  clear hk5 hg5 mk5
  go_wp2_with fail
  (with_reducible refine HCP2.out.mono ?_)
  rintro e6 w6 ⟨rfl, hk6, hg6⟩
  have mk6 : ∀ {b : Nat} {l : List (Int × Int)}, ba ≠ b → MapI w5 b l → MapI w6 b l := fun hne ⟨D, h1, h2⟩ => ⟨D, h1.kept hg6 (fun e => hne (by injection e with e; exact e.symm)), h2⟩
  have HM1f := Lib.hid (mk6 HN.out.1 HM1e.out)
  have HM2f := Lib.hid (mk6 HN.out.2.1 HM2e.out)
  have HM3f := Lib.hid (mk6 HN.out.2.2.1 HM3e.out)
  have HB6 := Lib.hid (HB5.out.grown hg6 HB5.out.size (fun j ej => by injection ej with ej; rw [← ej]; exact HN.out.2.2.2))
  obtain ⟨DA, hown6, hA⟩ := hk6
  have hsz := hown6.size_le
  have hka := fun ss => keysI_all (ss := ss) hown6 hA
  have HKA := Lib.hid hka
  have HKY := Lib.hid (maps_KeysI (some ba) w6)
  have HSO := Lib.hid (sorted_KeysI ba _ DA _ w6 hown6 (by have := HL.out; simp only [maxLen]; omega) (by have := HL.out; omega))
  clear hown6 hA hsz hka hg6 mk6
  go_wp2_with fail
  (with_reducible refine HKY.out.mono ?_)
  rintro e7 w7 ⟨rfl, rfl⟩
  go_wp2_with fail
  (with_reducible refine HSO.out.mono ?_)
  rintro e8 w8 ⟨v8, ss, rfl, hS, hrow8, -, hb8⟩
  obtain ⟨k1, k2⟩ := HKA.out ss hS
  rw [k1, k2] at hrow8
  change w8.ownsRow _ _ _ _ (fromsU x y z).length (cellsOf (fromsU x y z)) at hrow8
  have hrd8 := reads_own hrow8
  obtain ⟨a8, c8, rfl⟩ := hrd8.shape
  have hb68 := ((Below.refl w6.heap.size w6).alloc (Nat.le_refl _) (.cells #[.map (some ba)] 291)).trans (hb8.mono (by simp))
  have HB8 := Lib.hid (HB6.out.trans (hb68.mono HB6.out.size))
  have HM1g := Lib.hid (HM1f.out.below hb68)
  have HM2g := Lib.hid (HM2f.out.below hb68)
  have HM3g := Lib.hid (HM3f.out.below hb68)
  have HRD := Lib.hid hrd8
  obtain ⟨U, hU⟩ : ∃ U, fromsU x y z = U := ⟨_, rfl⟩
  have hmv : mvM x y z = mvK x y z U [] := by rw [← hU]; rfl
  have hul : U.length ≤ 3000 := by
    rw [← hU]
    have := Lmd.Cpt.len_sub (fu_rise x y z) (fun d hd => fu_mem.1 hd)
    simp only [List.length_append, froms, List.length_map] at this
    have := HL.out; omega
  rw [hU] at HRD HDU ⊢
  obtain ⟨n, hn⟩ : ∃ n, U.length = n := ⟨_, rfl⟩
  rw [hn] at hul HRD ⊢
  have HNN := Lib.hid hn
  have HMV := Lib.hid hmv
  clear hS hrow8 hb8 k1 k2 hrd8 hb68 hU hn hmv HKA HKY HSO HCP HCP2 HCL HT1 HT2 HT3
  go_wp2_with fail
  go_loopw [12, 14, 15, 16, 35] (fun v12 _ _ _ i wr => ∃ (k m : Nat) (a6 : Option Addr) (c6 : Nat) (o : List (Int × Int)), k ≤ n ∧ i = .int .i64 (k : Int) ∧ m = o.length ∧ m ≤ k ∧ mvM x y z = mvK x y z (U.drop k) o ∧ v12 = .slice a6 m c6 ∧ wr.ownsRow w8.heap.size 95 2 (.slice a6 m c6) o.length (cellsM o) ∧ Below w8.heap.size w8 wr) (fun _ _ _ _ i _ => n - (intOf i).toNat)
  case atStart => exact ⟨0, 0, none, 0, [], Nat.zero_le _, rfl, rfl, Nat.zero_le _, HMV.out, rfl, ⟨rfl, .inl ⟨rfl, rfl⟩⟩, Below.refl _ _⟩
  case round =>
    obtain ⟨k, m, a6, c6, o, hk, rfl, hm, hmk, hrel, rfl, hown, hbr⟩ := hrel
    have HM := Lib.hid hm
    have HREL := Lib.hid hrel
    have HOWN := Lib.hid hown
    have HBR := Lib.hid hbr
    clear hm hrel hown hbr
    by_cases hlt : k < n
    · have hkU : k < U.length := by rw [HNN.out]; exact hlt
      obtain ⟨f, hf⟩ : ∃ f, Ints.el U k = f := ⟨_, rfl⟩
      have hdr : U.drop k = f :: U.drop (k + 1) := by rw [List.drop_eq_getElem_cons hkU, ← Ints.el_lt hkU, hf]
      have hfd : InD f := HDU.out f (by rw [← hf, Ints.el_lt hkU]; exact List.getElem_mem hkU)
      have hrel := HREL.out
      rw [hdr] at hrel
      unfold mvK at hrel
      obtain ⟨-, b5, o5, rfl, hcc⟩ := HRD.out.at (by intro h; rw [h] at hkU; exact absurd hkU (Nat.not_lt_zero _))
      have hc0 := cell_later HBR.out (hcc k hkU)
      rw [hf] at hc0
      have HX := Lib.hid (to_any b1 x f wr (HM1g.out.below HBR.out) hfd)
      have HY := Lib.hid (to_any b2 y f wr (HM2g.out.below HBR.out) hfd)
      have HZ := Lib.hid (to_any b3 z f wr (HM3g.out.below HBR.out) hfd)
      obtain ⟨tx, htx⟩ : ∃ t, toI x f = t := ⟨_, rfl⟩
      obtain ⟨ty, hty⟩ : ∃ t, toI y f = t := ⟨_, rfl⟩
      obtain ⟨tz, htz⟩ : ∃ t, toI z f = t := ⟨_, rfl⟩
      rw [htx] at HX hrel
      rw [hty] at HY hrel
      rw [htz] at HZ hrel
      have hpk := pickI_any tx ty tz wr
      obtain ⟨⟨t, is⟩, hti⟩ : ∃ q, pickG tx ty tz = q := ⟨_, rfl⟩
      rw [hti] at hpk hrel
      dsimp only at hpk hrel
      have HPK := Lib.hid hpk
      have HRL := Lib.hid hrel
      clear hf hdr hfd hrel hcc htx hty htz hpk hti hkU
      go_wp2_with fail
      (with_reducible refine HX.out.mono ?_)
      rintro e9 w9 ⟨rfl, rfl⟩
      go_wp2_with fail
      (with_reducible refine HY.out.mono ?_)
      rintro e10 w10 ⟨rfl, rfl⟩
      go_wp2_with fail
      (with_reducible refine HZ.out.mono ?_)
      rintro e11 w11 ⟨rfl, rfl⟩
      go_wp2_with fail
      (with_reducible refine HPK.out.mono ?_)
      rintro e12 w12 ⟨rfl, rfl⟩
      cases is with
      | false =>
        go_wp2
        go_ret2
        have h := HRL.out
        first
          | rw [if_pos rfl] at h
          | rw [if_pos trivial] at h
        refine ⟨.slice none 0 0, ?_, ?_, fun g hg => by simp [Value.ownBlock] at hg, HB8.out.trans (HBR.out.mono HB8.out.size)⟩
        · rw [h]; rfl
        · rw [h]; exact .inl ⟨rfl, none, 0, rfl⟩
      | true =>
        by_cases ht : 0 ≤ t
        · have hl3 : o.length ≤ 3000000 := by rw [← HM.out]; omega
          have HL3 := Lib.hid hl3
          have hls := HBR.out.size
          have HTT := Lib.hid ht
          clear hl3
          go_wp2_with (
            at_builtin
            refine append_move rfl (.tmp 56) (.tmp 60) rfl w8.heap.size (.slice a6 m c6) o rfl (HOWN.out.alloc _) w12.heap.size (f, t) rfl ⟨cell_of (heap_new w12 _) rfl, cell_of (heap_new w12 _) rfl⟩ HL3.out (Nat.le_trans hls (by simp)) ?_
            intro a9 c9 w13 hown9 hb9
            rw [← HM.out]
            have HO9 := Lib.hid hown9
            have HB9 := Lib.hid hb9
            clear hown9 hb9)
          go_roundw
          case rel =>
            have h := HRL.out
            rw [if_neg (by simp), if_pos HTT.out] at h
            refine ⟨k + 1, m + 1, a9, c9, o ++ [(f, t)], by omega, by go_num, by rw [List.length_append, ← HM.out]; rfl, by omega, h, rfl, ?_, (HBR.out.alloc hls _).trans HB9.out⟩
            have h := HO9.out
            rw [← HM.out] at h
            exact h
          case measure => simp [intOf]; omega
        · have HTT := Lib.hid ht
          go_wp2_with fail
          go_roundw
          case rel =>
            have h := HRL.out
            rw [if_neg (by simp), if_neg (by have := HTT.out; omega)] at h
            exact ⟨k + 1, m, a6, c6, o, by omega, by go_num, HM.out, by omega, h, rfl, HOWN.out, HBR.out⟩
          case measure => simp [intOf]; omega
    · obtain rfl : k = n := by omega
      have hfin : mvM x y z = (o, true) := by
        rw [HREL.out, List.drop_eq_nil_of_le (by rw [HNN.out]; exact Nat.le_refl _)]; rfl
      have HF := Lib.hid hfin
      clear hfin
      go_wp2
      go_ret2
      refine ⟨_, by rw [HF.out]; rfl, by rw [HF.out]; exact mreads_own HOWN.out rfl, ?_, HB8.out.trans (HBR.out.mono HB8.out.size)⟩
      exact (own_from HOWN.out).mono HB8.out.size
end Mg
end Go.Proofs.YtghkalamlcfnnaaGreatDoor
end
