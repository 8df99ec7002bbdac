/- BkIds, BkBuild, RuleTx, EvGet: texts joined. -/
import Derived.Test.YtghkalamlcfnnaaGreatDoorQA6
import Derived.Test.YtghkalamlcfnnaaGreatDoorQShelf
import Derived.Shelf.SlIter.Nil
import Derived.Shelf.SortM.Plain
import Derived.Shelf.SortM.SortNone
import Derived.Ground.GgzProg
import Derived.Ground.SlgmProg
import Derived.Test.YtghkalamlcfnnaaGreatDoorQA13
import Derived.Test.YtghkalamlcfnnaaGreatDoorQRuleText
import Derived.Shelf.Strings.Builder1
import Derived.Shelf.Strings.OnBuilder
import Derived.Shelf.Strings.BuilderF
import Derived.Shelf.Strings.BuilderK
import Derived.Test.YtghkalamlcfnnaaGreatDoorQNumPlain
import Derived.Test.YtghkalamlcfnnaaGreatDoorQA7
import Derived.Test.YtghkalamlcfnnaaGreatDoorQA11
section
namespace Go.Proofs.YtghkalamlcfnnaaGreatDoor
open Go Go.RowKit Go.Maps Go.Sort Go.Shelf Lmd
open Go.Proofs (encStr)
attribute [local go_sem] Oper.semAt_some
namespace Bk
open Evt Tp Rul Day Cand Er
theorem sorts (m : Nat) : AnyZ.SortsIn Tryz.prog Tryz.sortedS_ren Fence.wide m :=
  ⟨fun blk off cap ss W hH hblk hsz => callsIn_wide.2 (AnyM.slices_Sort_string Tryz.sortSm blk off cap ss W hH hblk hsz),
   fun p cap W => callsIn_wide.2 (AnyM.slices_Sort_string_none Tryz.sortSm p cap W)⟩
theorem maps_Keys (mb : Option Nat) (W : World) : CallsIn Fence.wide 5 Tryz.prog 42 #[.map mb] W fun e w' => e = .returned (.func (.func 84) #[] #[.pointer (some ⟨W.heap.size, 0, none⟩)]) ∧ w' = W.alloc (.cells #[.map mb] 89) :=
  AnyZ.keys_in Tryz.keysEv Fence.wide 5 trivial rfl mb W
set_option maxHeartbeats 1000000 in
theorem sorted_Keys {H : Type} (b nn : Nat) (D0 : DataW H) (R : Value → Option (DataW H × List MemPlace)) (w : World) (hown : w.ownsMap Tryz.prog 9 R b nn D0) (hmax : Maps.size D0 ≤ maxLen) (hbytes : Maps.size D0 * 16 ≤ 140737488355328) :
    CallsIn Fence.wide 5 Tryz.prog 41 #[.func (.func 84) #[] #[.pointer (some ⟨w.heap.size, 0, none⟩)]] (w.alloc (.cells #[.map (some b)] 89)) fun e w' => ∃ (v : Value) (ss : List (List UInt8)), e = .returned v ∧ ss.Perm (strKeys D0) ∧
      w'.ownsRow (w.alloc (.cells #[.map (some b)] 89)).heap.size 9 1 v ss.length ((ss.mergeSort (fun x y => decide (x ≤ y))).map encStr) ∧ (v = .slice none 0 0 ↔ ss = []) ∧ Below (w.alloc (.cells #[.map (some b)] 89)).heap.size (w.alloc (.cells #[.map (some b)] 89)) w' := by
  have hbl := hown.lt
  have hseq : SeqGives Fence.wide 2 Tryz.prog 84 #[.pointer (some ⟨w.heap.size, 0, none⟩)] encStr (fun ss => ss.Perm (strKeys D0)) (Maps.size D0) (w.alloc (.cells #[.map (some b)] 89)) :=
    AnyZ.keys_gives (ρ := Tryz.keysEv_ren) { Tryz.keysEv with } Fence.wide _ trivial rfl (by omega) w.heap.size b nn D0 _ (by simp) (by simp) (by
      obtain ⟨es, clock, hb, Ft, hs, hD⟩ := hown
      exact ⟨es, clock, (Below.heap_alloc _ _ b hbl).trans hb, Ft, hs, hD⟩)
  exact AnyZ.sorted_in Tryz.sortedS Fence.wide 5 trivial trivial trivial trivial rfl (by omega) (sorts _) (enters_of Tryz.func38 (by kernel_rfl) rfl) 84 #[.pointer (some ⟨w.heap.size, 0, none⟩)] trivial (enters_of Tryz.func84 (by kernel_rfl) rfl) _ _ hmax hbytes _ hseq
theorem asc_nodup {L : List Ev} (h : Asc L) : (L.map key).Nodup :=
  List.pairwise_map.2 (h.imp fun {a b} (hl : key a < key b) (e : key a = key b) => lt_irrefl (key b) (by rw [e] at hl; exact hl))
theorem keys_sorted {w : World} {B m n : Nat} {D : DataW Value} {L : List Ev} (hown : w.ownsMap Tryz.prog 9 asIs m n D) (h : Tells w B D L) (ha : Asc L) {ss : List (List UInt8)} (hp : ss.Perm (strKeys D)) :
    (ss.mergeSort (fun x y => decide (x ≤ y))).map encStr = cellsS (idsB L) ∧ ss.length = L.length := by
  obtain ⟨es, hD, hk⟩ := hown.keysOf
  have hT : Maps.Tidy D := hown.tidy lawS
  have h1 : (L.map key).Perm (strKeys D) := by
    subst hD
    obtain ⟨es', he', hne⟩ := hT
    obtain rfl : es = es' := by injection he'
    refine perm_strKeys hne (fun p hp => ?_) (asc_nodup ha) fun x => ?_
    · obtain ⟨k, hk⟩ := hk p hp
      obtain ⟨x, _, hx, _⟩ := Maps.keyOf_str Tryz.underlying9 hk
      exact ⟨x, hx⟩
    · rw [h.has, hasK_iff, List.mem_map]
  have h2 := hp.trans h1.symm
  have h3 : (L.map key).mergeSort leB = L.map key := by
    have tr : ∀ a b c : List UInt8, leB a b = true → leB b c = true → leB a c = true := fun a b c h1 h2 => by simp only [leB, decide_eq_true_eq] at *; exact List.le_trans h1 h2
    have tot : ∀ a b : List UInt8, (leB a b || leB b a) = true := fun a b => by simp only [leB, Bool.or_eq_true, decide_eq_true_eq]; exact List.le_total a b
    refine List.Perm.eq_of_pairwise (le := fun a b => leB a b = true) (fun a b _ _ h1 h2 => ?_) (List.pairwise_mergeSort tr tot _) ?_ (List.mergeSort_perm _ leB)
    · simp only [leB, decide_eq_true_eq] at h1 h2
      exact List.le_antisymm h1 h2
    · refine List.pairwise_map.2 (ha.imp fun {a b} hl => ?_)
      simp only [leB, decide_eq_true_eq]
      exact List.le_of_lt hl
  have h4 := mergeSort_of_perm h2
  refine ⟨?_, by have := h2.length_eq; simpa using this⟩
  show (ss.mergeSort leB).map encStr = _
  rw [h4, h3]
  simp [cellsS, idsB, encStr, key]
set_option maxRecDepth 100000 in
set_option maxHeartbeats 1000000 in
theorem ids_any (w : World) (B b m : Nat) (L : List Ev) (h : Book w B b m L) :
    Calls Tryz.prog 12 #[.pointer (some ⟨b, 0, none⟩)] w fun e w' => ∃ v, e = .returned v ∧ w'.ownsRow w.heap.size 9 1 v L.length (cellsS (idsB L)) ∧ Below w.heap.size w w' := by
  obtain ⟨D, hown, hT⟩ := h.map
  have hk := fun ss => keys_sorted (ss := ss) hown hT h.asc
  have hfew := h.few
  have hmax : Maps.size D ≤ maxLen := by rw [hT.size]; simp only [maxLen]; omega
  have hbytes : Maps.size D * 16 ≤ 140737488355328 := by rw [hT.size]; omega
  have k0 : w.cell? ⟨b, 0, none⟩ = some (.map (some m)) := by simp [World.cell?, h.box]
  have HK := Lib.hid hk
  clear hk hT h hfew
  refine (callsIn_wide (n := 6)).1 ?_
  have hfK : Fence.wide.fn 42 := trivial
  have hfS : Fence.wide.fn 41 := trivial
  refine callsIn_of_wp Tryz.func12 rfl trivial ?_ rfl
  simp only [Tryz.ntmps12, List.size_toArray, List.length_cons, List.length_nil, Nat.reduceAdd, Nat.reduceSub, Array.replicate_succ, Array.replicate_zero, List.push_toArray, List.append_toArray, List.nil_append, List.cons_append]
  gi_wp2_with (first
    | (gi_at_call 42; refine (maps_Keys _ _).mono ?_; rintro e w' ⟨rfl, rfl⟩)
    | (gi_at_call 41; refine (sorted_Keys m L.length D asIs w hown hmax hbytes).mono ?_; rintro e w' ⟨v, ss, rfl, hS, hrow, hnil, hb⟩))
  go_ret
  obtain ⟨e1, e2⟩ := HK.out ss hS
  rw [e1, e2] at hrow
  exact ⟨v, rfl, ownsRow_base_a hrow (by simp), ((Below.refl _ w).alloc (Nat.le_refl _) _).trans (hb.mono (by simp))⟩
end Bk
end Go.Proofs.YtghkalamlcfnnaaGreatDoor
end
section
namespace Go.Proofs.YtghkalamlcfnnaaGreatDoor
open Go Go.RowKit Go.Shelf Lmd
namespace Bd
abbrev Is (B b : Nat) (l : List UInt8) (w : World) : Prop := Lib.IsBuilder 127 5 B b (Lib.byteCells l) w
theorem string_any (B b : Nat) (l : List UInt8) (w : World) (h : Is B b l w) (hB : B ≤ w.heap.size) :
    Calls Tryz.prog 71 #[.pointer (some ⟨b, 0, none⟩)] w fun e w' => e = .returned (.string ⟨l.toArray⟩) ∧ Below B w w' :=
  Tryz.Builder_String_any B b l w h hB
theorem new_is (w : World) : Is w.heap.size w.heap.size [] (w.alloc (.cells #[.pointer none, .slice none 0 0] 127)) := by
  refine .inl ⟨Nat.le_refl _, .slice none 0 0, Rul.heap_new w _, ⟨rfl, .inl ⟨rfl, rfl⟩⟩, by simp [Value.ownBlock]⟩
theorem Is.below {B b : Nat} {l : List UInt8} {w w' : World} (h : Is B b l w) (hb : Below w.heap.size w w') : Is B b l w' := by
  have hk : ∀ p, Lib.BuilderAt 127 5 B b p (Lib.byteCells l) w → Lib.BuilderAt 127 5 B b p (Lib.byteCells l) w' := by
    rintro p ⟨h1, v, h2, h3, h4⟩
    refine ⟨h1, v, by rw [hb.block b (Array.getElem?_eq_some_iff.1 h2).1]; exact h2, ?_, h4⟩
    refine h3.kept (row := none) ⟨hb.os, hb.tape, hb.output, hb.size, fun k hk _ => hb.block k hk⟩ ?_
    cases hv : v.ownBlock with
    | none => exact .inl rfl
    | some k => exact .inr (by simp)
  rcases h with h | h
  · exact .inl (hk _ h)
  · exact .inr (hk _ h)
theorem Is.lt {B b : Nat} {l : List UInt8} {w : World} (h : Is B b l w) : b < w.heap.size := by
  rcases h with ⟨_, v, h2, _⟩ | ⟨_, v, h2, _⟩ <;> exact (Array.getElem?_eq_some_iff.1 h2).1
abbrev IsF (B b : Nat) (l : List UInt8) (w : World) : Prop := Lib.IsBuilderF 127 5 B b (Lib.byteCells l) w
theorem Is.f {B b : Nat} {l : List UInt8} {w : World} (h : Is B b l w) : IsF B b l w := Lib.IsBuilderF.of h
theorem write_k (B b : Nat) (l : List UInt8) (s : ByteArray) (w : World) (h : IsF B b l w) (hl : l.length + s.size ≤ 1000000000) (hB : B ≤ w.heap.size) :
    Calls Tryz.prog 69 #[.pointer (some ⟨b, 0, none⟩), .string s] w fun e w' => e = .returned (.tuple #[.int .i64 s.size, .nilIface]) ∧ IsF B b (l ++ s.data.toList) w' ∧ Below B w w' ∧ Lib.OthersKept 5 (some b) w w' := by
  refine (Any.Builder_WriteString_k { Tryz.lays156 with } Tryz.Builder_Extra_156 B b (Lib.byteCells l) s w h (by rw [Lib.byteCells_length]; omega) hB).mono ?_
  rintro e w' ⟨rfl, h1, h2, h3⟩
  refine ⟨rfl, ?_, h2, h3⟩
  have e : Lib.byteCells (l ++ s.data.toList) = Lib.byteCells l ++ Lib.strCells s := by rw [Lib.byteCells_append]; rfl
  unfold IsF
  rw [e]
  exact .inr h1
theorem string_f (B b : Nat) (l : List UInt8) (w : World) (h : IsF B b l w) (h0 : l ≠ []) :
    Calls Tryz.prog 71 #[.pointer (some ⟨b, 0, none⟩)] w fun e w' => e = .returned (.string ⟨l.toArray⟩) ∧ Below B w w' :=
  (Tryz.Builder_String_f B b l w h h0).mono fun _ _ h => ⟨h.1, h.2.2⟩
theorem IsF.below {B b : Nat} {l : List UInt8} {w w' : World} (h : IsF B b l w) (hb : Below w.heap.size w w') : IsF B b l w' := by
  have hk : ∀ p, Lib.BuilderAtF 127 5 B b p (Lib.byteCells l) w → Lib.BuilderAtF 127 5 B b p (Lib.byteCells l) w' := by
    rintro p ⟨h1, v, h2, h3, h4⟩
    refine ⟨h1, v, by rw [hb.block b (Array.getElem?_eq_some_iff.1 h2).1]; exact h2, ?_, h4⟩
    refine h3.kept (row := none) ⟨hb.os, hb.tape, hb.output, hb.size, fun k hk _ => hb.block k hk⟩ ?_
    cases hv : v.ownBlock with
    | none => exact .inl rfl
    | some k => exact .inr (by simp)
  rcases h with h | h
  · exact .inl (hk _ h)
  · exact .inr (hk _ h)
theorem IsF.lt {B b : Nat} {l : List UInt8} {w : World} (h : IsF B b l w) : b < w.heap.size := by
  rcases h with ⟨_, v, h2, _⟩ | ⟨_, v, h2, _⟩ <;> exact (Array.getElem?_eq_some_iff.1 h2).1
end Bd
end Go.Proofs.YtghkalamlcfnnaaGreatDoor
end
section
namespace Go.Proofs.YtghkalamlcfnnaaGreatDoor
open Go Go.RowKit Go.Shelf Lmd
attribute [local go_sem] Oper.semAt_some
namespace Rul
open Er Day Cand
theorem text_good (r : Ru) (v : Value) (e : Nat → Addr) (w : World) (he : E4 w e) (hr : Ints.Reads w v r.ds) (hl : r.ds.length < 50000) (hb : bad r = 0) (htab : Lib.TabIs Tryz.prog w "internal/strconv.uint64pow10" .u64 Lib.pow10Tab) :
    Calls Tryz.prog 143 #[.agg #[.string r.fq, .int .i64 r.ev, v, .int .i64 r.ct, .int .i64 r.un]] w fun e' w' => e' = .returned (.string (mk (textL r))) ∧ Below w.heap.size w w' := by
  obtain ⟨h1, h2, h3, h4, h5⟩ := bad_parts hb
  obtain ⟨b1, b2, b3⟩ := bound_parts h2
  have hcu : r.ct = 0 ∨ r.un = -1 := by
    simp only [shapeB, Bool.and_eq_true, Bool.or_eq_true, decide_eq_true_eq] at h4
    exact h4.2
  have hf : r.fq.size ≤ 8 := by
    rcases freqs_mem h1 with h | h | h | h | h <;> rw [h] <;> decide
  exact text_any r v e w he hr hl hb hf b1 b2 b3 hcu h3 htab
set_option maxRecDepth 100000 in
set_option maxHeartbeats 1500000 in
theorem text_bad (r : Ru) (v : Value) (e : Nat → Addr) (w : World) (he : E4 w e) (hr : Ints.Reads w v r.ds) (hl : r.ds.length < 50000) (hb : bad r ≠ 0) :
    Calls Tryz.prog 143 #[.agg #[.string r.fq, .int .i64 r.ev, v, .int .i64 r.ct, .int .i64 r.un]] w fun e' w' => e' = .returned (.string ⟨#[]⟩) ∧ Below w.heap.size w w' := by
  obtain ⟨a, cap, rfl⟩ := hr.shape
  obtain ⟨W1, hW1⟩ : ∃ W1, w.alloc (.cells #[.string r.fq, .int .i64 r.ev, .slice a r.ds.length cap, .int .i64 r.ct, .int .i64 r.un] 37) = W1 := ⟨_, rfl⟩
  have hB : Below w.heap.size w W1 := by rw [← hW1]; exact (Below.refl _ w).alloc (Nat.le_refl _) _
  have hc := chk_any r _ e W1 (he.below hB) (hr.below hB) hl
  obtain ⟨q, hq⟩ : ∃ q, bad r = q := ⟨_, rfl⟩
  rw [hq] at hc hb
  have HC := Lib.hid hc
  have HB := Lib.hid hB
  have HW1 := Lib.hid hW1
  obtain ⟨n, hn⟩ : ∃ n, r.ds.length = n := ⟨_, rfl⟩
  rw [hn] at HC HW1 ⊢
  clear hc hB hW1 he hr hl hq hn
  cases q with
  | zero => exact absurd rfl hb
  | succ q =>
    clear hb
    go_enter Tryz.func143, Tryz.ntmps143
    go_wp2_with fail
    rw [HW1.out]
    (with_reducible refine HC.out.mono ?_)
    rintro e1 w2 ⟨rfl, hb2⟩
    have HB2 := Lib.hid (HB.out.trans (hb2.mono HB.out.size))
    clear hb2
    simp only [errV, ev]
    go_wp2
    go_ret
    exact ⟨rfl, HB2.out⟩
theorem text_all (r : Ru) (v : Value) (e : Nat → Addr) (w : World) (he : E4 w e) (hr : Ints.Reads w v r.ds) (hl : r.ds.length < 50000) (htab : Lib.TabIs Tryz.prog w "internal/strconv.uint64pow10" .u64 Lib.pow10Tab) :
    Calls Tryz.prog 143 #[.agg #[.string r.fq, .int .i64 r.ev, v, .int .i64 r.ct, .int .i64 r.un]] w fun e' w' => e' = .returned (.string (if bad r = 0 then mk (textL r) else ⟨#[]⟩)) ∧ Below w.heap.size w w' := by
  by_cases hb : bad r = 0
  · rw [if_pos hb]; exact text_good r v e w he hr hl hb htab
  · rw [if_neg hb]; exact text_bad r v e w he hr hl hb
end Rul
end Go.Proofs.YtghkalamlcfnnaaGreatDoor
end
section
namespace Go.Proofs.YtghkalamlcfnnaaGreatDoor
open Go Go.RowKit Go.Shelf Lmd
attribute [local go_sem] Oper.semAt_some
namespace Evt
open Rul Day Cand Er
theorem textL_len (r : Ru) (hb : bad r = 0) (hl : r.ds.length < 50000) : (textL r).length ≤ 400000 := by
  obtain ⟨h1, h2, h3, h4, h5⟩ := bad_parts hb
  obtain ⟨⟨e1, e2⟩, ⟨c1, c2⟩, u1, u2⟩ := bound_parts h2
  have hf : r.fq.data.toList.length ≤ 8 := by
    rcases freqs_mem h1 with h | h | h | h | h <;> rw [h] <;> decide
  have hi := Lib.itoa_length_le r.ev (by omega) (by omega)
  have hc := Lib.itoa_length_le r.ct (by omega) (by omega)
  have hj := join_le [44] (by simp) ((r.ds.map nameOf).map (·.data.toList)) (by
    intro x hx
    simp only [List.map_map, List.mem_map] at hx
    obtain ⟨d, _, rfl⟩ := hx
    exact nameOf_len d)
  simp only [List.length_map] at hj
  have hd : (dayT r.un).length ≤ 10 ∨ r.un = -1 := by
    by_cases hu : r.un = -1
    · exact .inr hu
    · obtain ⟨y, m, d, ha⟩ := Cal.at_exists r.un (by omega) (by omega)
      rw [dayT_at ha]; exact .inl (Nat.le_refl _)
  have hD : (daysL r).length ≤ 300001 := by
    unfold daysL; split
    · simp
    · simp only [List.length_append, List.length_cons, List.length_nil]; omega
  have hC : (countL r).length ≤ 28 := by
    unfold countL; split
    · simp only [List.length_append, List.length_cons, List.length_nil]; omega
    · simp
  have hU : (untilL r).length ≤ 17 := by
    unfold untilL; split
    · simp only [List.length_append, List.length_cons, List.length_nil]; omega
    · simp
  unfold textL; split
  · omega
  · unfold headL
    simp only [List.length_append, List.length_cons, List.length_nil]; omega
set_option maxRecDepth 100000 in
set_option maxHeartbeats 4000000 in
theorem get_any (e : Ev) (vd vs vm : Value) (f : ByteArray) (er : Nat → Addr) (w : World) (hT : Tb w er) (hr : Rv w e vd vs vm) (hz : Size e) (hl0 : -9223372036854775808 ≤ e.lg) (hl1 : e.lg ≤ 9223372036854775807) (hM : MovesC vm e.mv w) :
    Calls Tryz.prog 94 #[.agg (e.cells vd vs vm), .string f] w fun r w' => r = .returned (.string (getL e f)) ∧ Below w.heap.size w w' := by
  obtain ⟨W, hW⟩ : ∃ W, w.alloc (.cells (e.cells vd vs vm) 40) = W := ⟨_, rfl⟩
  have hB : Below w.heap.size w W := by rw [← hW]; exact (Below.refl _ w).alloc (Nat.le_refl _) _
  have hx : W.heap[w.heap.size]? = some (.cells (e.cells vd vs vm) 40) := by rw [← hW]; exact heap_new w _
  have hTW := hT.below hB
  have hd := dayText_any e.st er W hTW
  have hi : Calls Tryz.prog 142 #[.int .i64 e.lg] W fun e' w' => e' = .returned (.string (mk (Lib.itoa e.lg))) ∧ Below W.heap.size W w' := itoa_b e.lg hl0 hl1 W hTW.tab
  have hru := text_all e.ru vd er W hTW.errs.four (hr.d.below hB) hz.ds hTW.tab
  have hs := skips_any e.sk vs er W hTW (hr.s.below hB) hz.sk
  have hm := hM W hB
  obtain ⟨T, hTT⟩ : ∃ T, getL e f = T := ⟨_, rfl⟩
  unfold getL at hTT
  rw [show getL e f = T from hTT]
  have HD := Lib.hid hd
  have HI := Lib.hid hi
  have HRU := Lib.hid hru
  have HS := Lib.hid hs
  have HM := Lib.hid hm
  have HX := Lib.hid hx
  have HB := Lib.hid hB
  have HW := Lib.hid hW
  have HTT := Lib.hid hTT
  clear hT hr hz hl0 hl1 hM hW hB hx hTW hd hi hru hs hm hTT
  go_enter Tryz.func94, Tryz.ntmps94
  obtain ⟨k0, k1, k2, k3, k4, k5, k6, k7, k8, k9, k10⟩ := cells11 HX.out
  go_upto_region 2 with fail
  rw [HW.out]
  by_cases h1 : f.toList = [116, 105, 116, 108, 101]
  · have hTT := HTT.out
    rw [if_pos h1] at hTT
    subst hTT
    clear HTT
    go_wp2
    go_ret
    exact ⟨rfl, HB.out⟩
  by_cases h2 : f.toList = [115, 116, 97, 114, 116]
  · have hTT := HTT.out
    rw [if_neg h1, if_pos h2] at hTT
    have HT2 := Lib.hid hTT
    clear HTT hTT
    go_wp2_with fail
    (with_reducible refine HD.out.mono ?_)
    rintro e2 w2 ⟨rfl, hb2⟩
    have HB2 := Lib.hid (HB.out.trans (hb2.mono HB.out.size))
    clear hb2
    rw [HT2.out]
    go_wp2
    go_ret
    exact ⟨rfl, HB2.out⟩
  by_cases h3 : f.toList = [108, 111, 110, 103]
  · have hTT := HTT.out
    rw [if_neg h1, if_neg h2, if_pos h3] at hTT
    have HT2 := Lib.hid hTT
    clear HTT hTT
    go_wp2_with fail
    (with_reducible refine HI.out.mono ?_)
    rintro e2 w2 ⟨rfl, hb2⟩
    have HB2 := Lib.hid (HB.out.trans (hb2.mono HB.out.size))
    clear hb2
    rw [HT2.out]
    go_wp2
    go_ret
    exact ⟨rfl, HB2.out⟩
  by_cases h4 : f.toList = [114, 117, 108, 101]
  · have hTT := HTT.out
    rw [if_neg h1, if_neg h2, if_neg h3, if_pos h4] at hTT
    have HT2 := Lib.hid hTT
    clear HTT hTT
    go_wp2_with fail
    (with_reducible refine HRU.out.mono ?_)
    rintro e2 w2 ⟨rfl, hb2⟩
    have HB2 := Lib.hid (HB.out.trans (hb2.mono HB.out.size))
    clear hb2
    rw [HT2.out]
    go_wp2
    go_ret
    exact ⟨rfl, HB2.out⟩
  by_cases h5 : f.toList = [115, 107, 105, 112, 115]
  · have hTT := HTT.out
    rw [if_neg h1, if_neg h2, if_neg h3, if_neg h4, if_pos h5] at hTT
    have HT2 := Lib.hid hTT
    clear HTT hTT
    go_wp2_with fail
    (with_reducible refine HS.out.mono ?_)
    rintro e2 w2 ⟨rfl, hb2⟩
    have HB2 := Lib.hid (HB.out.trans (hb2.mono HB.out.size))
    clear hb2
    rw [HT2.out]
    go_wp2
    go_ret
    exact ⟨rfl, HB2.out⟩
  by_cases h6 : f.toList = [109, 111, 118, 101, 115]
  · have hTT := HTT.out
    rw [if_neg h1, if_neg h2, if_neg h3, if_neg h4, if_neg h5, if_pos h6] at hTT
    have HT2 := Lib.hid hTT
    clear HTT hTT
    go_wp2_with fail
    (with_reducible refine HM.out.mono ?_)
    rintro e2 w2 ⟨rfl, hb2⟩
    have HB2 := Lib.hid (HB.out.trans (hb2.mono HB.out.size))
    clear hb2
    rw [HT2.out]
    go_wp2
    go_ret
    exact ⟨rfl, HB2.out⟩
  · have hTT := HTT.out
    rw [if_neg h1, if_neg h2, if_neg h3, if_neg h4, if_neg h5, if_neg h6] at hTT
    subst hTT
    have b1 : (f.toList == [116, 105, 116, 108, 101]) = false := by simpa using h1
    have b2 : (f.toList == [115, 116, 97, 114, 116]) = false := by simpa using h2
    have b3 : (f.toList == [108, 111, 110, 103]) = false := by simpa using h3
    have b4 : (f.toList == [114, 117, 108, 101]) = false := by simpa using h4
    have b5 : (f.toList == [115, 107, 105, 112, 115]) = false := by simpa using h5
    have b6 : (f.toList == [109, 111, 118, 101, 115]) = false := by simpa using h6
    clear HTT h1 h2 h3 h4 h5 h6
    go_wp2
    go_ret
    exact ⟨rfl, HB.out⟩
noncomputable def partsE (e : Ev) (k : Nat) : List ByteArray := e.id :: (fieldL.take k).map (getL e)
noncomputable def textE (e : Ev) : List UInt8 := Lib.join ((partsE e 6).map (·.data.toList)) [124]
theorem getL_len (e : Ev) (f : ByteArray) (h : badE e = 0) (hd : e.ru.ds.length < 50000) : (getL e f).data.toList.length ≤ 400000 := by
  obtain ⟨_, h2, _, h4, h5, h6⟩ := badE_zero h
  obtain ⟨s1, s2, _⟩ := badL_zero h6
  have ht : e.ti.data.toList.length ≤ 40 := by
    unfold titleB at h2
    rw [Bool.and_eq_true] at h2
    rw [Array.length_toList]
    exact of_decide_eq_true h2.1
  have hi := Lib.itoa_length_le e.lg (by omega) (by omega)
  have hs := skipsL_len e.sk
  have hm := movesL_len e.mv
  have hr := textL_len e.ru h5 hd
  have hdl := dayL_len e.st
  unfold getL
  split
  · omega
  split
  · show (mk _).data.toList.length ≤ _; rw [mk_list]; omega
  split
  · show (mk _).data.toList.length ≤ _; rw [mk_list]; omega
  split
  · (try rw [if_pos h5]); show (mk _).data.toList.length ≤ _; rw [mk_list]; omega
  split
  · show (mk _).data.toList.length ≤ _; rw [mk_list]; omega
  split
  · show (mk _).data.toList.length ≤ _; rw [mk_list]; omega
  · simp
theorem textE_len (e : Ev) (h : badE e = 0) (hd : e.ru.ds.length < 50000) : (textE e).length ≤ 3000000 := by
  obtain ⟨h1, _⟩ := badE_zero h
  have hid : e.id.data.toList.length ≤ 12 := by
    unfold nameB at h1
    rw [Bool.and_eq_true, Bool.and_eq_true] at h1
    rw [Array.length_toList]
    exact of_decide_eq_true h1.1.2
  have := join_len [124] 400000 ((partsE e 6).map (·.data.toList)) (fun x hx => by
    simp only [partsE, List.map_cons, List.mem_cons, List.mem_map] at hx
    rcases hx with rfl | ⟨y, ⟨z, _, rfl⟩, rfl⟩
    · omega
    · exact getL_len e z h hd)
  have hl : ((partsE e 6).map (·.data.toList)).length = 7 := by simp [partsE, fieldL]
  rw [hl] at this
  unfold textE
  simp only [List.length_cons, List.length_nil] at this
  omega
theorem parts_snoc (e : Ev) {k : Nat} (h : k < 6) : partsE e (k + 1) = partsE e k ++ [getL e (fieldL.getD k ByteArray.empty)] := by
  have hk : k < fieldL.length := h
  unfold partsE
  rw [List.take_succ_eq_append_getElem hk, List.map_append, List.getD_eq_getElem?_getD, List.getElem?_eq_getElem hk]
  rfl
theorem parts_len (e : Ev) {k : Nat} (h : k ≤ 6) : (partsE e k).length = k + 1 := by
  have : fieldL.length = 6 := rfl
  simp [partsE]; omega
theorem field_cell {W : World} {B : Nat} (h : W.heap[B]? = some (.cells fieldsV 9)) {k : Nat} (hk : k < 6) : W.cell? ⟨B, k, none⟩ = some (.string (fieldL.getD k ByteArray.empty)) := by
  simp only [World.cell?, h]
  have : k = 0 ∨ k = 1 ∨ k = 2 ∨ k = 3 ∨ k = 4 ∨ k = 5 := by omega
  rcases this with rfl | rfl | rfl | rfl | rfl | rfl <;> rfl
theorem own_built (w : World) (s : ByteArray) : (w.alloc (.cells #[.string s] 9)).ownsRow w.heap.size 9 1 (.slice (some ⟨w.heap.size, 0, none⟩) 1 1) 1 (cellsS [s]) :=
  ⟨rfl, .inr ⟨w.heap.size, 1, #[.string s], rfl, Nat.le_refl _, heap_new w _, Nat.le_refl _, by simp [maxLen], rfl, rfl⟩⟩
theorem append_str_at {w : World} {ops : Array Oper} {rest : List Oper} {o : Oper} {a : Act} {Q : Exit → Act → World → Prop} (hgd : o.guard = none) (s x : Operand)
    (ho : o.op = .call { callee := .builtin .append, args := #[s, x], argTypes := #[33, 33] })
    (base : Nat) (v : Value) (xs : List ByteArray) (hs : a.eval s = v) (hown : w.ownsRow base 9 1 v xs.length (cellsS xs)) (g : Nat) (y : ByteArray) (hx : a.eval x = .slice (some ⟨g, 0, none⟩) 1 1) (hg : w.cell? ⟨g, 0, none⟩ = some (.string y))
    (hb : xs.length ≤ 3000000) (hbase : base ≤ w.heap.size)
    (h : ∀ a' c' w', w'.ownsRow base 9 1 (.slice a' (xs.length + 1) c') (xs ++ [y]).length (cellsS (xs ++ [y])) → Below base w w' → (∀ D, D < w.heap.size → some D ≠ v.ownBlock → w'.heap[D]? = w.heap[D]? ∧ some D ≠ (Value.slice a' (xs.length + 1) c').ownBlock) →
      wpList Tryz.prog ops Q rest (a.put o.dst (.slice a' (xs.length + 1) c')) w') : wpList Tryz.prog ops Q (o :: rest) a w := by
  obtain ⟨i0, hi0, hz0, hz1, hz2⟩ := info_parts string_info
  refine wpList_append_own_at _ hgd s x 33 ho base 9 i0 _ 1 16 Tryz.underlying33 hi0 hz0 hz1 hz2 rfl (by omega) v xs.length (cellsS xs) hs hown ⟨g, 0, none⟩ 1 1 [.string y] hx rfl
    (fun j u hu => by
      cases j with
      | zero => simp at hu; subst hu; exact hg
      | succ j => simp at hu) (fun u hu => by simp at hu; subst hu; rfl) (by simp only [maxLen]; omega) (by omega) hbase ?_
  intro v' w' h1 h2 _ h4
  obtain ⟨a1, c1, rfl⟩ := own_at h1
  refine h a1 c1 w' ?_ ((Below.refl base w).grown h2 hbase (fun j ej => own_ge hown ej)) (fun D hD hne => ⟨h2.block D hD hne, fun e => ?_⟩)
  · have hS : cellsS (xs ++ [y]) = cellsS xs ++ [.string y] := by simp [cellsS]
    rw [hS, List.length_append]; exact h1
  · rcases h4 with h4 | h4
    · exact hne (e.trans h4)
    · rw [h4] at e; cases e; omega
set_option maxRecDepth 100000 in
set_option maxHeartbeats 4000000 in
theorem text_good (e : Ev) (vd vs vm : Value) (er : Nat → Addr) (w : World) (hT : Tb w er) (hr : Rv w e vd vs vm) (hz : Size e) (hbad : badE e = 0) (hM : MovesC vm e.mv w) :
    Calls Tryz.prog 70 #[.agg (e.cells vd vs vm)] w fun r w' => r = .returned (.string (mk (textE e))) ∧ Below w.heap.size w w' := by
  obtain ⟨W, hW⟩ : ∃ W, w.alloc (.cells (e.cells vd vs vm) 40) = W := ⟨_, rfl⟩
  have hB : Below w.heap.size w W := by rw [← hW]; exact (Below.refl _ w).alloc (Nat.le_refl _) _
  have hx : W.heap[w.heap.size]? = some (.cells (e.cells vd vs vm) 40) := by rw [← hW]; exact heap_new w _
  have hc := check_any e vd vs vm er W (hT.errs.below hB) (hr.below hB) hz
  rw [hbad] at hc
  have hg := fun (f : ByteArray) W' (h : Below W.heap.size W W') => get_any e vd vs vm f er W' ((hT.below hB).below h) ((hr.below hB).below h) hz (by have := (badE_zero hbad).2.2.2.1; omega) (by have := (badE_zero hbad).2.2.2.1; omega)
    (fun W2 h2 => hM W2 ((hB.trans (h.mono hB.size)).trans (h2.mono (Nat.le_trans hB.size h.size))))
  have HC := Lib.hid hc
  have HG := Lib.hid hg
  have HX := Lib.hid hx
  have HB := Lib.hid hB
  have HW := Lib.hid hW
  have HTL := Lib.hid (textE_len e hbad hz.ds)
  clear hT hr hz hbad hM hW hB hx hc hg
  go_enter Tryz.func70, Tryz.ntmps70
  obtain ⟨k0, k1, k2, k3, k4, k5, k6, k7, k8, k9, k10⟩ := cells11 HX.out
  go_upto_region 1 with fail
  rw [HW.out]
  go_wp2_with fail
  (with_reducible refine HC.out.mono ?_)
  rintro e1 w1 ⟨rfl, hb1⟩
  have HX1 := Lib.hid (row_below HX.out hb1)
  have HB1 := Lib.hid hb1
  simp only [errV]
  clear hb1 k0 k1 k2 k3 k4 k5 k6 k7 k8 k9 k10
  obtain ⟨k0, k1, k2, k3, k4, k5, k6, k7, k8, k9, k10⟩ := cells11 HX1.out
  go_wp2_with (go_at_call 93; refine (fields_new _).mono ?_; rintro e2 w2 ⟨rfl, rfl⟩)
  obtain ⟨W2, hW2⟩ : ∃ W2, (w1.alloc (.cells #[.string e.id] 9)).alloc (.cells fieldsV 9) = W2 := ⟨_, rfl⟩
  have hb2 : Below w1.heap.size w1 W2 := by rw [← hW2]; exact ((Below.refl _ w1).alloc (Nat.le_refl _) _).alloc (by simp) _
  have ho2 : W2.ownsRow w1.heap.size 9 1 (.slice (some ⟨w1.heap.size, 0, none⟩) 1 1) (partsE e 0).length (cellsS (partsE e 0)) := by
    rw [← hW2]; exact (own_built w1 e.id).alloc _
  have hf2 : W2.heap[w1.heap.size + 1]? = some (.cells fieldsV 9) := by
    rw [← hW2]
    have h := heap_new (w1.alloc (.cells #[.string e.id] 9)) (.cells fieldsV 9)
    rwa [World.size_alloc] at h
  have hs2 : W2.heap.size = w1.heap.size + 2 := by rw [← hW2]; simp
  have HB2 := Lib.hid hb2
  have HO2 := Lib.hid ho2
  have HF2 := Lib.hid hf2
  have HS2 := Lib.hid hs2
  rw [hW2]
  clear hW2 hb2 ho2 hf2 hs2 k0 k1 k2 k3 k4 k5 k6 k7 k8 k9 k10
  go_loopw [3, 14] (fun v3 p wr => ∃ k : Nat, k ≤ 6 ∧ p = .int .i64 (k : Int) ∧ (∃ a c, v3 = .slice a (k + 1) c) ∧ some (w1.heap.size + 1) ≠ v3.ownBlock ∧ wr.ownsRow w1.heap.size 9 1 v3 (partsE e k).length (cellsS (partsE e k)) ∧ Below w1.heap.size w1 wr ∧ wr.heap[w1.heap.size + 1]? = some (.cells fieldsV 9)) (fun _ p _ => 6 - (intOf p).toNat)
  case atStart => exact ⟨0, Nat.zero_le _, rfl, ⟨_, _, rfl⟩, by simp [Value.ownBlock], HO2.out, HB2.out, HF2.out⟩
  case round =>
    obtain ⟨k, hk, rfl, ⟨a7, c7, rfl⟩, hnb, hown, hbr, hf⟩ := hrel
    have HNB := Lib.hid hnb
    have hsr := hbr.size
    have HOWN := Lib.hid hown
    have HBR := Lib.hid hbr
    have HF := Lib.hid hf
    have hpl := parts_len e hk
    have HPL := Lib.hid hpl
    by_cases hlt : k < 6
    · have c1 := field_cell hf hlt
      have hsn := parts_snoc e hlt
      obtain ⟨f, hff⟩ : ∃ f, fieldL.getD k ByteArray.empty = f := ⟨_, rfl⟩
      rw [hff] at c1 hsn
      have hgt := HG.out f wr (HB1.out.trans (hbr.mono HB1.out.size))
      obtain ⟨T, hTT⟩ : ∃ T, getL e f = T := ⟨_, rfl⟩
      rw [hTT] at hgt hsn
      obtain ⟨k0, k1, k2, k3, k4, k5, k6, k7, k8, k9, k10⟩ := cells11 (row_below HX1.out hbr)
      have HGT := Lib.hid hgt
      have HSN := Lib.hid hsn
      clear hown hbr hff hsn hTT hgt hf hpl hnb
      go_wp2_with fail
      (with_reducible refine HGT.out.mono ?_)
      rintro e2 w2 ⟨rfl, hb2⟩
      have HBG := Lib.hid hb2
      have HSG := Lib.hid hb2.size
      clear hb2 k0 k1 k2 k3 k4 k5 k6 k7 k8 k9 k10
      go_wp2_with (at_builtin
                   refine append_str_at rfl (.tmp 18) (.tmp 22) rfl w1.heap.size (.slice a7 (k + 1) c7) (partsE e k) rfl ((own_below HOWN.out HBG.out).alloc _) w2.heap.size T rfl (cell_of (heap_new w2 _) rfl) (by rw [HPL.out]; omega) (by have := HSG.out; simp; omega) ?_
                   intro a1 c2 wb hown' hbb hkp
                   rw [HPL.out] at hown' hkp ⊢
                   have HOB := Lib.hid hown'
                   have hfr := (Below.heap_alloc w2 (.cells #[.string T] 9) _ (by have := row_lt (row_below HF.out HBG.out); omega)).trans (row_below HF.out HBG.out)
                   have HKP := Lib.hid (hkp _ (row_lt hfr) HNB.out)
                   have HFB := Lib.hid (HKP.out.1.trans hfr)
                   have HBB := Lib.hid (HBR.out.trans (((HBG.out.mono hsr).alloc (by have := HSG.out; omega) _).trans hbb))
                   clear hown' hbb hfr hkp)
      go_roundw
      case rel => exact ⟨k + 1, by omega, by simp, ⟨a1, c2, rfl⟩, HKP.out.2, by rw [HSN.out]; exact HOB.out, HBB.out, HFB.out⟩
      case measure => simp [intOf]; omega
    · obtain rfl : k = 6 := by omega
      have hj := join_any (partsE e 6) (.slice a7 (6 + 1) c7) w1.heap.size ⟨#[124]⟩ wr HOWN.out (by rw [HPL.out]; omega) (by
        show (textE e).length ≤ _
        have := HTL.out; omega)
      have HJ := Lib.hid (show Calls Tryz.prog 110 #[.slice a7 (6 + 1) c7, .string ⟨#[124]⟩] wr fun e' w' => e' = .returned (.string (mk (textE e))) ∧ Below wr.heap.size wr w' from hj)
      clear hown hbr hj hf hpl hnb
      go_wp2_with fail
      (with_reducible refine HJ.out.mono ?_)
      rintro e3 w3 ⟨rfl, hb3⟩
      have HB3 := Lib.hid (HB.out.trans ((HB1.out.trans ((HBR.out.trans (hb3.mono HBR.out.size)).mono HB1.out.size)).mono HB.out.size))
      clear hb3
      go_wp2
      go_ret
      exact ⟨rfl, HB3.out⟩
end Evt
end Go.Proofs.YtghkalamlcfnnaaGreatDoor
end
