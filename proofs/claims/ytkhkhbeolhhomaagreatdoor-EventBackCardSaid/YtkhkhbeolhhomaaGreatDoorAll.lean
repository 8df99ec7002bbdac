/- All days of a start and a rule: the iterators candidates$1 and All$1, each as a contract. -/
import Derived.Test.YtkhkhbeolhhomaaGreatDoorWeekly
import Derived.Test.YtkhkhbeolhhomaaGreatDoorCandMonths
namespace Go.Proofs.YtkhkhbeolhhomaaGreatDoor
open Go Go.RowKit Go.Shelf Lmd
attribute [local go_sem] Oper.semAt_some
namespace Cand
open Rul Day

/-- a contract at fewer elements -/
theorem seq_more {α : Type} {P : Program} {g : Nat} {lb : Array Value} {encs : α → Array Value} {R R' : (Nat → Prop) → Prop} {S S' Sp Sp' : List α → Prop} {N N' : Nat} {w : World}
    (h : Rng.Seq P g lb encs R S Sp N w) (hR : ∀ O, R' O → R O) (hS : ∀ xs, S xs → S' xs) (hSp : ∀ xs, Sp xs → Sp' xs) (hN : N ≤ N') : Rng.Seq P g lb encs R' S' Sp' N' w := by
  intro O l J Jx W a b c d e f hY h0
  refine (h O l J Jx W a (hR O b) c d e f (fun hi pre x W1 h1 h2 h3 => hY hi pre x W1 h1 h2 (by omega)) h0).mono ?_
  rintro e W' ⟨hv, hi, hhi, (⟨xs, hs, hj⟩ | ⟨xs, hs, hj⟩)⟩
  · exact ⟨hv, hi, hhi, .inl ⟨xs, hS xs hs, hj⟩⟩
  · exact ⟨hv, hi, hhi, .inr ⟨xs, hSp xs hs, hj⟩⟩

set_option maxRecDepth 100000 in
set_option maxHeartbeats 2000000 in
theorem weekly1_seq (base br bs : Nat) (start : Int) (r : Ru) (v : Value) (w : World) (hB : Boxes w br bs start r v) (hf : r.fq = weekly) (hs0 : 0 ≤ start) (hs1 : start ≤ 73048) (he0 : 1 ≤ r.ev) (he1 : r.ev ≤ 100)
    (hl : (wdays start r.ds).length ≤ 7) (hd : ∀ d ∈ wdays start r.ds, 0 ≤ d ∧ d ≤ 6) :
    Rng.Seq Tryz.prog 201 (lb br bs) (fun x : Int => #[.int .i64 x]) (Apart base br bs v) (fun xs => xs = wks start ((start + 5) % 7) r.ev (wdays start r.ds)) (fun pre => pre <+: wks start ((start + 5) % 7) r.ev (wdays start r.ds)) 100000 w := by
  intro O l J Jx W hW hO hOb _ hJ hJx hY h0
  refine (callsIn_wide (n := Rng.dp + 1)).1 ?_
  refine callsIn_of_wp Tryz.func201 rfl trivial ?_ rfl
  simp only [Tryz.ntmps201, lb, List.size_toArray, List.length_cons, List.length_nil, Nat.reduceAdd, Nat.reduceSub, Array.replicate_succ, Array.replicate_zero, List.push_toArray, List.append_toArray, List.nil_append, List.cons_append]
  have k0 := cell_later hW hB.r0
  have k1 := cell_later hW hB.r1
  have k2 := cell_later hW hB.r2
  have k3 := cell_later hW hB.r3
  have k4 := cell_later hW hB.r4
  have ks := cell_later hW hB.s
  have hwk := weekly_seq start r v w hs0 hs1 he0 he1 hB.rd hl hd O l J Jx W hW hO.2.2.1 hOb hY h0
  have HWK := Lib.hid hwk
  rw [hf] at k0
  have hfe : r.fq = weekly := hf
  clear hwk hY h0 hB hf
  gi_wp2_with (refine ⟨trivial, ?_⟩; gi_at_call 202; rw [← hfe]; refine (callsIn_wide.2 HWK.out).mono ?_; rintro e W1 ⟨⟨vv, rfl⟩, hi, hhi, hq⟩)
  go_end0
  exact ⟨⟨_, rfl⟩, hi, hhi, hq⟩

/-- the iterator candidates$1 -/
theorem cands_seq (base br bs : Nat) (start y m d : Int) (r : Ru) (v : Value) (ad : Addr) (w : World) (hB : Boxes w br bs start r v) (hb : bad r = 0) (ha : Cal.At start y m d) (hg : 3 < base)
    (hc' : w.cell? ⟨3, 0, none⟩ = some (.iface 339 (.pointer (some ad)))) :
    Rng.Seq Tryz.prog 201 (lb br bs) (fun x : Int => #[.int .i64 x]) (Apart base br bs v) (fun xs => xs = cands start y m d r) (fun pre => pre <+: cands start y m d r) 100000 w := by
  obtain ⟨h1, h2, h3, h4, h5⟩ := bad_parts hb
  obtain ⟨⟨e1, e2⟩, _⟩ := bound_parts h2
  have hbd := Cal.at_bd ha
  rcases freqs_mem h1 with h | h | h | h | h
  · have e : r.fq.toList = [111, 110, 99, 101] := by rw [h]; simp
    have hc : cands start y m d r = [start] := by unfold cands; rw [if_pos e]
    rw [hc]
    exact seq_more (once_seq base br bs start r v w hB h) (fun _ h => h) (fun _ h => h) (fun _ h => h ▸ List.prefix_rfl) (by omega)
  · have e : r.fq.toList = [100, 97, 105, 108, 121] := by rw [h]; simp
    have hc : cands start y m d r = steps start r.ev 73048 := by unfold cands; rw [if_neg (by rw [e]; decide), if_pos e]
    rw [hc]
    exact daily_seq base br bs start r v w hB h hbd.1 hbd.2 e1 e2
  · have e : r.fq.toList = [119, 101, 101, 107, 108, 121] := by rw [h]; simp
    have hc : cands start y m d r = wks start ((start + 5) % 7) r.ev (wdays start r.ds) := by unfold cands; rw [if_neg (by rw [e]; decide), if_neg (by rw [e]; decide), if_pos e]
    rw [hc]
    refine weekly1_seq base br bs start r v w hB h hbd.1 hbd.2 e1 e2 (wdays_len h5 h3) ?_
    unfold wdays; split
    · intro x hx; simp at hx; omega
    · exact days_in h3
  · have e : r.fq.toList = [109, 111, 110, 116, 104, 108, 121] := by rw [h]; simp
    have hc : cands start y m d r = mons y m d (r.ev * mulOf r.fq) := by unfold cands; rw [if_neg (by rw [e]; decide), if_neg (by rw [e]; decide), if_neg (by rw [e]; decide)]
    rw [hc]
    exact months_seq base br bs start y m d r v ad w hB (by rw [e]; decide) (by rw [e]; decide) (by rw [e]; decide) ha e1 e2 hg hc'
  · have e : r.fq.toList = [121, 101, 97, 114, 108, 121] := by rw [h]; simp
    have hc : cands start y m d r = mons y m d (r.ev * mulOf r.fq) := by unfold cands; rw [if_neg (by rw [e]; decide), if_neg (by rw [e]; decide), if_neg (by rw [e]; decide)]
    rw [hc]
    exact months_seq base br bs start y m d r v ad w hB (by rw [e]; decide) (by rw [e]; decide) (by rw [e]; decide) ha e1 e2 hg hc'

set_option maxHeartbeats 1000000 in
theorem candidates_any (start : Int) (r : Ru) (v : Value) (w : World) :
    Calls Tryz.prog 155 #[.int .i64 start, r.val v] w fun e w' => e = .returned (.func (.func 201) #[] (lb (w.heap.size + 1) w.heap.size)) ∧ w' = (w.alloc (.cells #[.int .i64 start] 3)).alloc (.cells #[.string r.fq, .int .i64 r.ev, v, .int .i64 r.ct, .int .i64 r.un] 35) := by
  obtain ⟨fq, ev, ct, un, ds⟩ := r
  simp only [Ru.val] at *
  go_enter Tryz.func155, Tryz.ntmps155
  go_wp2
  go_ret
  exact ⟨rfl, rfl⟩
set_option maxHeartbeats 1000000 in
theorem all_any (start : Int) (r : Ru) (v : Value) (w : World) :
    Calls Tryz.prog 89 #[.int .i64 start, r.val v] w fun e w' => e = .returned (.func (.func 154) #[] #[.pointer (some ⟨w.heap.size, 0, none⟩), .pointer (some ⟨w.heap.size + 1, 0, none⟩)]) ∧ w' = (w.alloc (.cells #[.int .i64 start] 3)).alloc (.cells #[.string r.fq, .int .i64 r.ev, v, .int .i64 r.ct, .int .i64 r.un] 35) := by
  obtain ⟨fq, ev, ct, un, ds⟩ := r
  simp only [Ru.val] at *
  go_enter Tryz.func89, Tryz.ntmps89
  go_wp2
  go_ret
  exact ⟨rfl, rfl⟩
theorem boxes_new (start : Int) (r : Ru) (v : Value) (w : World) (hr : Ints.Reads w v r.ds) (t1 t2 : TypeId) :
    Boxes ((w.alloc (.cells #[.int .i64 start] t1)).alloc (.cells #[.string r.fq, .int .i64 r.ev, v, .int .i64 r.ct, .int .i64 r.un] t2)) (w.heap.size + 1) w.heap.size start r v := by
  have h1 := heap_new (w.alloc (.cells #[.int .i64 start] t1)) (.cells #[.string r.fq, .int .i64 r.ev, v, .int .i64 r.ct, .int .i64 r.un] t2)
  rw [World.size_alloc] at h1
  have h0 : ((w.alloc (.cells #[.int .i64 start] t1)).alloc (.cells #[.string r.fq, .int .i64 r.ev, v, .int .i64 r.ct, .int .i64 r.un] t2)).heap[w.heap.size]? = some (.cells #[.int .i64 start] t1) :=
    (Below.heap_alloc _ _ _ (by simp)).trans (heap_new w _)
  exact ⟨cell_of h0 rfl, cell_of h1 rfl, cell_of h1 rfl, cell_of h1 rfl, cell_of h1 rfl, cell_of h1 rfl, hr.below (((Below.refl _ w).alloc (Nat.le_refl _) _).alloc (by simp) _)⟩
end Cand
end Go.Proofs.YtkhkhbeolhhomaaGreatDoor
