/- Rows of texts alone: what is appended to them leaves lists of numbers where they are. -/
import Derived.Test.YtghkalamlcfnnaaGreatDoorQMgW
import Derived.Test.YtghkalamlcfnnaaGreatDoorQA6
import Derived.Maps.AppendAt
import Derived.Lib.AppendZeros
namespace Go.Proofs.YtghkalamlcfnnaaGreatDoor
open Go Go.RowKit Go.Shelf Lmd
attribute [local go_sem] Oper.semAt_some
namespace Mg
open Evt Bk Df Rul Day Cand Er Tp
def AllS (w : World) (v : Value) : Prop := ∀ g, v.ownBlock = some g → ∃ cur e, w.heap[g]? = some (.cells cur e (0, 0)) ∧ ∀ u ∈ cur.toList, ∃ s, u = .string s
theorem allS_nil (w : World) : AllS w (.slice none 0 0) := fun g h => by simp [Value.ownBlock] at h
theorem AllS.kept {w w' : World} {v : Value} (h : AllS w v) (hk : ∀ g, v.ownBlock = some g → g < w.heap.size → w'.heap[g]? = w.heap[g]?) : AllS w' v := fun g hg => by
  obtain ⟨cur, e, h1, h2⟩ := h g hg
  exact ⟨cur, e, (hk g hg (Array.getElem?_eq_some_iff.1 h1).1).trans h1, h2⟩
theorem run_append_strs {P : Program} (w : World) (base : Nat) (t ty e : TypeId) (i : TypeInfo) (z : Value) (size bytes : Nat) (ht : P.underlying t = some (.slice e)) (hi : P.info? e = some i) (hz : i.zero = some z)
    (hsize : i.size = size) (hby : i.bytes = bytes) (hzs : z.cells.size = size) (hsz : 0 < size)
    (v : Value) (n : Nat) (xs : List Value) (hown : w.ownsRow base e size v n xs)
    (a : Addr) (m c : Nat) (news : List Value) (hl : news.length = m * size) (hnews : ∀ j u, news[j]? = some u → w.cell? (a.add j) = some u) (h1 : ∀ u ∈ news, u.oneCell' = true)
    (h63 : n + m ≤ maxLen) (hbytes : (n + m) * bytes ≤ 140737488355328) (hbase : base ≤ w.heap.size)
    (hS : AllS w v) (hN : ∀ u ∈ news, ∃ s, u = .string s) (hZ : ∀ k, ∀ u ∈ (Builtin.zeroCells z.cells k).toList, ∃ s, u = .string s) :
    ∃ v' w', (Builtin.append_ #[t, t] ty #[v, .slice (some a) m c]).run P w = .ok v' w' ∧ w'.ownsRow base e size v' (n + m) (xs ++ news) ∧ w.grownBy w' v.ownBlock ∧
      (v' = .slice none 0 0 ↔ v = .slice none 0 0 ∧ m = 0) ∧ (v'.ownBlock = v.ownBlock ∨ v'.ownBlock = some w.heap.size) ∧ AllS w' v' := by
  obtain ⟨v', w', hr, q1, q2, q3, q4⟩ := run_append_own_at (P := P) w base t ty e i z size bytes ht hi hz hsize hby hzs hsz v n xs hown a m c news hl hnews h1 h63 hbytes hbase
  refine ⟨v', w', hr, q1, q2, q3, q4, ?_⟩
  have h64 : n + m ≤ 9223372036854775807 := by simp only [maxLen] at h63; omega
  rcases hown.2 with ⟨rfl, rfl⟩ | ⟨g, cap, cur, rfl, _, hg, hnc, _, hcs, htake⟩
  · by_cases hm : m = 0
    · rw [q3.2 ⟨rfl, hm⟩]; exact allS_nil _
    · have hr2 := run_append_nil (P := P) w t ty e i z ht hi hz a m c news (by rw [hl, hsize]) hnews (by omega) (by omega) (by rw [hby]; rw [Nat.zero_add] at hbytes; omega)
      rw [hr] at hr2
      injection hr2 with e1 e2
      subst e1 e2
      intro g hg
      simp [Value.ownBlock] at hg
      subst hg
      refine ⟨_, e, heap_alloc_new w.drew _, fun u hu => ?_⟩
      rw [Array.toList_append] at hu
      rcases List.mem_append.1 hu with hu | hu
      · exact hN u (by simpa using hu)
      · exact hZ _ u hu
  · obtain ⟨cur2, e2, hg2, hc2⟩ := hS g rfl
    rw [hg] at hg2
    have hcc : cur2 = cur := by injection hg2 with h; injection h with h _ _; exact h.symm
    subst hcc
    by_cases hroom : n + m ≤ cap
    · have hfit : n * i.size + news.length ≤ cur2.size := by rw [hl, hcs, hsize, ← Nat.add_mul]; exact Nat.mul_le_mul_right _ hroom
      have hr2 := run_append_room (P := P) w t ty e i ht hi g n cap cur2 hg a m c news (by rw [hl, hsize]) hnews h1 hroom hfit
      rw [hr] at hr2
      injection hr2 with e1 e3
      subst e1 e3
      intro g' hg'
      simp [Value.ownBlock] at hg'
      subst hg'
      refine ⟨_, e, setRow_heap w g cur2 _ e _ hg, fun u hu => ?_⟩
      have hu' : u ∈ cur2.toList.take (n * i.size) ++ news ++ cur2.toList.drop (n * i.size + news.length) := by simpa using hu
      rcases List.mem_append.1 hu' with hu | hu
      · rcases List.mem_append.1 hu with hu | hu
        · exact hc2 u (List.mem_of_mem_take hu)
        · exact hN u hu
      · exact hc2 u (List.mem_of_mem_drop hu)
    · have holds : ∀ j u, xs[j]? = some u → w.cell? ((⟨g, 0, none⟩ : Addr).add j) = some u := hown.cells (g := g) rfl
      have hr2 := run_append_grow (P := P) w t ty e i z ht hi hz ⟨g, 0, none⟩ n cap xs (by rw [hown.1, hsize]) holds a m c news (by rw [hl, hsize]) hnews (by omega) (by omega) (growslice_fits (by omega) (by rw [hby]; exact hbytes))
      rw [hr] at hr2
      injection hr2 with e1 e3
      subst e1 e3
      intro g' hg'
      simp [Value.ownBlock] at hg'
      subst hg'
      refine ⟨_, e, heap_alloc_new w.drew _, fun u hu => ?_⟩
      rw [Array.toList_append, Array.toList_append] at hu
      rcases List.mem_append.1 hu with hu | hu
      · rcases List.mem_append.1 hu with hu | hu
        · have hx : u ∈ xs := by simpa using hu
          rw [← htake] at hx
          exact hc2 u (List.mem_of_mem_take hx)
        · exact hN u (by simpa using hu)
      · exact hZ _ u hu
theorem zero_strs (k : Nat) : ∀ u ∈ (Builtin.zeroCells (Value.cells (.agg #[.string ⟨#[]⟩, .string ⟨#[]⟩])) k).toList, ∃ s, u = .string s := by
  intro u hu
  unfold Builtin.zeroCells at hu
  simp only [Array.toList_map, List.mem_map] at hu
  obtain ⟨j, _, rfl⟩ := hu
  have h2 : (Value.cells (.agg #[.string ⟨#[]⟩, .string ⟨#[]⟩])).size = 2 := rfl
  rw [h2]
  have hj : j % 2 = 0 ∨ j % 2 = 1 := by omega
  rcases hj with h | h <;> rw [h] <;> exact ⟨⟨#[]⟩, rfl⟩
theorem cellsX_strs {xs : List Cl} : ∀ u ∈ cellsX xs, ∃ s, u = .string s := by
  intro u hu
  unfold cellsX at hu
  obtain ⟨c, _, hu⟩ := List.mem_flatMap.1 hu
  simp only [List.mem_cons, List.not_mem_nil, or_false] at hu
  rcases hu with rfl | rfl
  · exact ⟨_, rfl⟩
  · exact ⟨_, rfl⟩
theorem off_strs {w : World} {q : Nat} {cur : Array Value} {e : TypeId} (hq : w.heap[q]? = some (.cells cur e (0, 0))) (hS : ∀ u ∈ cur.toList, ∃ s, u = .string s) {v : Value} {xs : List Int} (h : Ints.Reads w v xs) : Off q v := by
  rintro g o n c rfl hn rfl
  rcases h with ⟨rfl, a, cap, e1⟩ | ⟨b, off, cap, e1, hc⟩
  · cases e1; exact hn rfl
  · injection e1 with e2 e3 e4
    injection e2 with e2
    injection e2 with e2 e5 _
    subst e2
    have h0 := hc 0 (by omega)
    simp only [World.cell?, hq] at h0
    have hm : (.int .i64 (Ints.el xs 0) : Value) ∈ cur.toList := by
      have h1 : cur[off + 0]? = some (.int .i64 (Ints.el xs 0)) := by simpa using h0
      exact Array.mem_toList_iff.2 (Array.mem_of_getElem? h1)
    obtain ⟨s, hs⟩ := hS _ hm
    cases hs
theorem off_strsM {w : World} {q : Nat} {cur : Array Value} {e : TypeId} (hq : w.heap[q]? = some (.cells cur e (0, 0))) (hS : ∀ u ∈ cur.toList, ∃ s, u = .string s) {v : Value} {xs : List (Int × Int)} (h : MReads w v xs) : Off q v := by
  rintro g o n c rfl hn rfl
  rcases h with ⟨rfl, a, cap, e1⟩ | ⟨b, off, cap, e1, hc⟩
  · cases e1; exact hn rfl
  · injection e1 with e2 e3 e4
    injection e2 with e2
    injection e2 with e2 e5 _
    subst e2
    have h0 := (hc 0 (by omega)).1
    simp only [World.cell?, hq] at h0
    have hm : (.int .i64 (ml xs 0).1 : Value) ∈ cur.toList := by
      have h1 : cur[off + 0 * 2]? = some (.int .i64 (ml xs 0).1) := by simpa using h0
      exact Array.mem_toList_iff.2 (Array.mem_of_getElem? h1)
    obtain ⟨s, hs⟩ := hS _ hm
    cases hs
theorem book_strs {w w' : World} {B b m : Nat} {L : List Ev} {v : Value} (h : Book w B b m L) (hS : AllS w v) (hg : w.grownBy w' v.ownBlock) : Book w' B b m L := by
  cases hob : v.ownBlock with
  | none =>
    rw [hob] at hg
    exact h.below ⟨hg.os, hg.tape, hg.output, hg.size, fun k hk => hg.block k hk (by simp)⟩
  | some q =>
    rw [hob] at hg
    obtain ⟨cur, e, hq, hc⟩ := hS q hob
    have hf : Far (fun j => j = q) w w' := ⟨hg.os, hg.tape, hg.output, hg.size, fun k hk hne => hg.block k hk (fun e => hne (by injection e))⟩
    have hbq : b ≠ q := by
      rintro rfl
      have h1 := h.box
      rw [hq] at h1
      injection h1 with h1
      injection h1 with h1 _ _
      obtain ⟨s, hs⟩ := hc (.map (some m)) (by rw [h1]; simp)
      cases hs
    obtain ⟨D, h1, h2⟩ := h.map
    have hmq : m ≠ q := by
      rintro rfl
      obtain ⟨es, clock, hb, _⟩ := h1
      rw [hq] at hb; cases hb
    refine ⟨(hf.block b (Array.getElem?_eq_some_iff.1 h.box).1 hbq).trans h.box, h.lo, h.lom, ⟨D, h1.kept (row := some q) ⟨hf.os, hf.tape, hf.output, hf.size, fun j hj hne => hf.block j hj (fun e => hne (by rw [e]))⟩ (fun e => hmq (by injection e)), h2.has, fun x hx => ?_, h2.size⟩, h.asc, h.good, h.fit, h.few⟩
    obtain ⟨vd, vs, vm, r1, r2, r3⟩ := h2.ev x hx
    exact ⟨vd, vs, vm, r1, off_far hf r2 (off_strs hq hc r2.d) (off_strs hq hc r2.s) (off_strsM hq hc r2.m), r3⟩
theorem append_strp {w : World} {ops : Array Oper} {rest : List Oper} {o : Oper} {a : Act} {Q : Exit → Act → World → Prop} (hgd : o.guard = none) (s x : Operand)
    (ho : o.op = .call { callee := .builtin .append, args := #[s, x], argTypes := #[30, 30] })
    (base : Nat) (v vy : Value) (xs ys : List Cl) (hs : a.eval s = v) (hown : w.ownsRow base 52 2 v xs.length (cellsX xs)) (hS : AllS w v) (hx : a.eval x = vy) (hy : XReads w vy ys) (hb : xs.length ≤ 3000000) (hby : ys.length ≤ 3000000) (hbase : base ≤ w.heap.size)
    (h : ∀ a' c' w', w'.ownsRow base 52 2 (.slice a' (xs ++ ys).length c') (xs ++ ys).length (cellsX (xs ++ ys)) → Below base w w' → w.grownBy w' v.ownBlock → AllS w' (.slice a' (xs ++ ys).length c') → (v = .slice none 0 0 → ys = [] → Value.slice a' (xs ++ ys).length c' = .slice none 0 0) → wpList Tryz.prog ops Q rest (a.put o.dst (.slice a' (xs ++ ys).length c')) w') : wpList Tryz.prog ops Q (o :: rest) a w := by
  obtain ⟨i0, hi0, hz0, hz1, hz2⟩ := info_parts clash_info_p
  rcases hy with ⟨rfl, rfl⟩ | ⟨b, off, c, rfl, hc⟩
  · obtain ⟨a1, c1, e1⟩ := own_at hown
    refine wpList_append_own_none hgd s x 30 ho base 52 i0 2 Tryz.underlying30 hi0 v xs.length (cellsX xs) hs hown hx ?_
    have h4 := h a1 c1 w
    rw [List.append_nil] at h4
    rw [e1]
    exact h4 (by rw [← e1]; exact hown) (Below.refl base w) (World.grownBy.refl _ _) (by rw [← e1]; exact hS) (fun e2 _ => by rw [← e1]; exact e2)
  · obtain ⟨v', w', hr, q1, q2, q3, q4, q5⟩ := run_append_strs (P := Tryz.prog) w base 30 o.type 52 i0 _ 2 32 Tryz.underlying30 hi0 hz0 hz1 hz2 rfl (by omega) v xs.length (cellsX xs) hown ⟨b, off, none⟩ ys.length c (cellsX ys) (cellsX_len ys) (fun p u hu => by
      obtain ⟨j, i, hj, rfl, hu2⟩ := cellsX_cell hu
      rw [Evt.add_plain, ← Nat.add_assoc]
      exact (hc j hj).of i u hu2) (fun u hu => by obtain ⟨s, rfl⟩ := cellsX_strs u hu; rfl) (by simp only [maxLen]; omega) (by omega) hbase hS cellsX_strs zero_strs
    refine Lib.wpList_append_run w hgd s x 30 30 ho v (.slice (some ⟨b, off, none⟩) ys.length c) hs hx v' w' hr ?_
    obtain ⟨a1, c1, rfl⟩ := own_at q1
    have h4 := h a1 c1 w'
    rw [cellsX_app, List.length_append] at h4
    exact h4 q1 ((Below.refl base w).grown q2 hbase (fun j ej => Evt.own_ge hown ej)) q2 q5 (fun e1 e2 => by
      have h := q3.2 ⟨e1, by rw [e2]; rfl⟩
      rw [← h])
end Mg
end Go.Proofs.YtghkalamlcfnnaaGreatDoor
