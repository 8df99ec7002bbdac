/- package tape: disks. -/
import Derived.Test.YtmlndamkcipebaaDoorBuf
import Derived.Test.YtmlndamkcipebaaDoorTapeRead
namespace Go.Proofs.YtmlndamkcipebaaDoor
open Go Go.RowKit Lmd
namespace Tp
open Rul Day Cand

/-- a disk: its box, and its bytes -/
structure Dk (w : World) (base p : Nat) (v : Value) (l : List UInt8) (off : Bool) (cut : Int) : Prop where
  row : w.heap[p]? = some (.cells #[v, .bool off, .int .i64 cut] 88 (0, 0))
  buf : Buf w base v l
  ge : base ≤ p
theorem Dk.below {w w' : World} {base p : Nat} {v : Value} {l : List UInt8} {off : Bool} {cut : Int} (h : Dk w base p v l off cut) (hb : Below w.heap.size w w') : Dk w' base p v l off cut := ⟨row_below h.row hb, h.buf.below hb, h.ge⟩
/-- what lies behind tape.NewDisk -/
def NewPost (s : ByteArray) (w : World) (e : Ending) (w' : World) : Prop :=
  ∃ p v, e = .returned (.tuple #[.pointer (some ⟨p, 0, none⟩), .nilIface]) ∧ Dk w' w.heap.size p v s.data.toList false (-1) ∧ Below w.heap.size w w'
theorem foldl_push : ∀ (l : List UInt8) (s : ByteArray), (l.map fun b => (b.toNat : Int)).foldl (fun r n => r.push (UInt8.ofNat n.toNat)) s = s ++ mk l
  | [], s => by
    have : mk [] = ByteArray.empty := rfl
    simp [this]
  | b :: l, s => by
    rw [List.map_cons, List.foldl_cons, foldl_push l]
    have e : s.push (UInt8.ofNat ((b.toNat : Int)).toNat) = s ++ mk [b] := by
      rw [mk_self s, mk_cat]
      apply ByteArray.ext
      apply Array.ext'
      simp [ByteArray.push]
    rw [e, mk_self s, mk_cat, mk_cat, mk_cat]
    simp
theorem string_of_buf (w : World) (g c : Nat) (base : Nat) (l : List UInt8) (h : Buf w base (.slice (some ⟨g, 0, none⟩) l.length c) l) :
    (convert 86 9 (.slice (some ⟨g, 0, none⟩) l.length c)).run Tryd.prog w = .ok (.string (mk l)) w := by
  rw [run_convert_bytes_string w 86 9 5 _ _ _ Tryd.underlying86 Tryd.underlying5 Tryd.underlying9]
  have hl : (loadCells ⟨g, 0, none⟩ l.length).run Tryd.prog w = .ok ((l.map fun b => (b.toNat : Int)).map (Value.int .u8)).toArray w := by
    have h2 := run_loadCells_list (P := Tryd.prog) (w := w) ⟨g, 0, none⟩ ((l.map fun b => (b.toNat : Int)).map (Value.int .u8)) (fun j v hv => by
      have hc := h.cells j
      rw [List.getElem?_map, List.getElem?_map] at hv
      cases hx : l[j]? with
      | none => rw [hx] at hv; cases hv
      | some x =>
        rw [hx] at hv
        cases hv
        rw [Addr.add_lit, Nat.zero_add]
        exact hc x hx)
    simpa using h2
  rw [run_bytesToString w ⟨g, 0, none⟩ l.length c _ hl, foldl_push]
  simp
set_option maxRecDepth 100000 in
set_option maxHeartbeats 800000 in
theorem newDisk_any (s : ByteArray) (w : World) (hs : s.size ≤ 2000) :
    Calls Tryd.prog 12 #[.string s] w (NewPost s w) := by
  have hb := buf_of_string w s (by simp only [maxLen]; omega)
  have hcv := Lib.run_convert_string_bytes w 9 86 5 s Tryd.underlying9 Tryd.underlying86 Tryd.underlying5
  have hbw := Lib.bytesWorld_below w 5 s
  have hz := Lib.bytesWorld_size w 5 s
  obtain ⟨W1, hW1⟩ : ∃ W1, Lib.bytesWorld w 5 s = W1 := ⟨_, rfl⟩
  obtain ⟨c, hc⟩ : ∃ c, grownCap w s.size 0 5 = c := ⟨_, rfl⟩
  rw [hW1] at hb hcv hbw hz
  rw [hc] at hb hcv
  have HB := Lib.hid hb
  have HBW := Lib.hid hbw
  have HZ := Lib.hid hz
  clear hb hW1 hc hbw hz
  go_enter Tryd.func12, Tryd.ntmps12
  go_wp2_with fail
  have hx := heap_new W1 (.cells #[.slice (some ⟨w.heap.size, 0, none⟩) s.size c, .bool false, .int .i64 (-1)] 88)
  have ha : Below W1.heap.size W1 (W1.alloc (.cells #[.slice (some ⟨w.heap.size, 0, none⟩) s.size c, .bool false, .int .i64 (-1)] 88)) := (Below.refl _ W1).alloc (Nat.le_refl _) _
  go_ret2
  exact ⟨_, _, rfl, ⟨hx, HB.out.below ha, by rw [HZ.out]; omega⟩, HBW.out.trans (ha.mono (by rw [HZ.out]; omega))⟩
set_option maxRecDepth 100000 in
set_option maxHeartbeats 800000 in
theorem bytes_any (w : World) (base p : Nat) (v : Value) (l : List UInt8) (off : Bool) (cut : Int) (h : Dk w base p v l off cut) :
    Calls Tryd.prog 15 #[.pointer (some ⟨p, 0, none⟩)] w fun e w' => e = .returned (.string (mk l)) ∧ w' = w := by
  obtain ⟨g, c, rfl, _, _⟩ := h.buf.shape
  have hcv := string_of_buf w g c base l h.buf
  have k0 := cell_of h.row (i := 0) rfl
  clear h
  go_enter Tryd.func15, Tryd.ntmps15
  go_wp2
  go_ret
  exact ⟨rfl, rfl⟩
/-- nothing else is touched -/
structure Far (S : Nat → Prop) (w w' : World) : Prop where
  os : w'.os = w.os
  tape : w'.tape = w.tape
  output : w'.output = w.output
  size : w.heap.size ≤ w'.heap.size
  block : ∀ k, k < w.heap.size → ¬ S k → w'.heap[k]? = w.heap[k]?
theorem Far.refl (S : Nat → Prop) (w : World) : Far S w w := ⟨rfl, rfl, rfl, Nat.le_refl _, fun _ _ _ => rfl⟩
theorem Far.trans {S : Nat → Prop} {a b c : World} (h : Far S a b) (k : Far S b c) : Far S a c :=
  ⟨k.os.trans h.os, k.tape.trans h.tape, k.output.trans h.output, Nat.le_trans h.size k.size, fun j hj hs => (k.block j (Nat.lt_of_lt_of_le hj h.size) hs).trans (h.block j hj hs)⟩
theorem Far.below {S : Nat → Prop} {w w' : World} {B : Nat} (h : Far S w w') (hS : ∀ k, S k → B ≤ k) (hB : B ≤ w.heap.size) : Below B w w' :=
  ⟨h.os, h.tape, h.output, h.size, fun k hk => h.block k (by omega) (fun hs => by have := hS k hs; omega)⟩
/-- the errors of tapes -/
structure ET (w : World) (e : Nat → Addr) : Prop where
  s1 : Frame.Sent w 0 (Er.tx [98, 111, 117, 110, 100]) (e 1)
  s2 : Frame.Sent w 1 (Er.tx [115, 104, 97, 112, 101]) (e 2)
  s6 : Frame.Sent w 2 (Er.tx [102, 117, 108, 108]) (e 6)
  s10 : Frame.Sent w 4 (Er.tx [111, 102, 102]) (e 10)
theorem ET.below {w w' : World} {e : Nat → Addr} (h : ET w e) (hb : Below w.heap.size w w') : ET w' e := ⟨h.s1.below hb, h.s2.below hb, h.s6.below hb, h.s10.below hb⟩
/-- what is written: the error's number, the bytes, is power off, the bytes until it fails -/
def wrC (off : Bool) (cut : Int) (s : List UInt8) : Nat := if off = true then 11 else if 0 ≤ cut ∧ cut < s.length then 11 else 0
def wrL (off : Bool) (cut : Int) (l s : List UInt8) : List UInt8 := if off = true then l else if 0 ≤ cut ∧ cut < s.length then l ++ s.take cut.toNat else l ++ s
def wrO (off : Bool) (cut : Int) (s : List UInt8) : Bool := if off = true then true else decide (0 ≤ cut ∧ cut < s.length)
def wrN (off : Bool) (cut : Int) (s : List UInt8) : Int := if off = true then cut else if 0 ≤ cut ∧ cut < s.length then cut else if 0 ≤ cut then cut - s.length else cut
/-- what lies behind a write of bytes -/
def WrPost (e : Nat → Addr) (w : World) (base p : Nat) (v : Value) (c : Nat) (l : List UInt8) (off : Bool) (cut : Int) (er : Ending) (w' : World) : Prop :=
  ∃ v', er = .returned (errV e c) ∧ Dk w' base p v' l off cut ∧ Far (fun k => k = p ∨ some k = v.ownBlock) w w' ∧ (v'.ownBlock = v.ownBlock ∨ ∃ k, v'.ownBlock = some k ∧ w.heap.size ≤ k)
theorem uint8_info : (Tryd.prog.info? 5).map (fun i => (i.zero, i.size, i.bytes)) = some (some (.int .u8 0), 1, 1) := by kernel_rfl
theorem Dk.cells {w : World} {base p : Nat} {v : Value} {l : List UInt8} {off : Bool} {cut : Int} (h : Dk w base p v l off cut) :
    w.cell? ⟨p, 0, none⟩ = some v ∧ w.cell? ⟨p, 1, none⟩ = some (.bool off) ∧ w.cell? ⟨p, 2, none⟩ = some (.int .i64 cut) ∧ w.frozen? ⟨p, 0, none⟩ = false ∧ w.frozen? ⟨p, 1, none⟩ = false ∧ w.frozen? ⟨p, 2, none⟩ = false := by
  simp [World.cell?, World.frozen?, h.row]
theorem Dk.ne {w : World} {base p : Nat} {v : Value} {l : List UInt8} {off : Bool} {cut : Int} (h : Dk w base p v l off cut) : v.ownBlock ≠ some p := by
  obtain ⟨g, cap, cur, fz, rfl, _, hr, _⟩ := h.buf
  intro e
  obtain rfl : g = p := by simpa [Value.ownBlock] using e
  have := h.row
  rw [hr] at this
  have ht : 5 = 88 := by injection this with e1; injection e1
  revert ht; decide
/-- behind an append to the bytes -/
theorem Dk.grown {w wb : World} {base p : Nat} {v : Value} {l : List UInt8} {off : Bool} {cut : Int} (h : Dk w base p v l off cut) (hg : w.grownBy wb v.ownBlock) : wb.heap[p]? = some (.cells #[v, .bool off, .int .i64 cut] 88 (0, 0)) := by
  rw [hg.block p (Array.getElem?_eq_some_iff.1 h.row).1 (Ne.symm h.ne)]; exact h.row
theorem far_grown {w wb : World} {p : Nat} {row : Option Nat} (hg : w.grownBy wb row) : Far (fun k => k = p ∨ some k = row) w wb :=
  ⟨hg.os, hg.tape, hg.output, hg.size, fun k hk hs => hg.block k hk (fun e => hs (.inr e))⟩
theorem Far.set {S : Nat → Prop} {w w' : World} (h : Far S w w') {p : Addr} (hp : S p.block) (v : Value) : Far S w (w'.setCell p v) :=
  ⟨h.os, h.tape, h.output, by simpa [World.setCell] using h.size, fun k hk hs => by
    rw [Below.heap_setCell _ _ _ _ (fun e => hs (by rw [e]; exact hp))]; exact h.block k hk hs⟩
theorem Buf.set {w : World} {base : Nat} {v u : Value} {l : List UInt8} {p : Addr} (h : Buf w base v l) (hp : v.ownBlock ≠ some p.block) : Buf (w.setCell p u) base v l := by
  obtain ⟨g, cap, cur, fz, rfl, hb, hr, rest⟩ := h
  exact ⟨g, cap, cur, fz, rfl, hb, by rw [Below.heap_setCell _ _ _ _ (fun e => hp (by simp [Value.ownBlock, e]))]; exact hr, rest⟩
theorem own_ne {w : World} {base p : Nat} {v : Value} {l : List UInt8} {cs : Array Value} (h : Buf w base v l) (hr : w.heap[p]? = some (.cells cs 88 (0, 0))) : v.ownBlock ≠ some p := by
  obtain ⟨g, cap, cur, fz, rfl, _, hr', _⟩ := h
  intro e
  obtain rfl : g = p := by simpa [Value.ownBlock] using e
  rw [hr'] at hr
  have ht : 5 = 88 := by injection hr with e1; injection e1
  revert ht; decide
theorem Far.drew {S : Nat → Prop} {w w' : World} (h : Far S w.drew w') : Far S w w' := ⟨h.os, h.tape, h.output, h.size, h.block⟩
set_option maxRecDepth 100000 in
set_option maxHeartbeats 800000 in
theorem write_any (w : World) (base p : Nat) (v : Value) (l s : List UInt8) (off : Bool) (cut : Int) (e : Nat → Addr) (h : Dk w base p v l off cut) (he : ET w e) (hl : l.length + s.length ≤ 3000000) (hc : -1 ≤ cut ∧ cut ≤ 9223372036854775807) (hgb : 4 < base) :
    Calls Tryd.prog 52 #[.pointer (some ⟨p, 0, none⟩), .string (mk s)] w (WrPost e w base p v (wrC off cut s) (wrL off cut l s) (wrO off cut s) (wrN off cut s)) := by
  obtain ⟨i0, hi0, hz0, hz1, hz2⟩ := info_parts uint8_info
  obtain ⟨k0, k1, k2, f0, f1, f2⟩ := h.cells
  have cE := he.s10.cell
  have HE := Lib.hid he.s10
  have H := Lib.hid h
  clear h he
  cases off with
  | true =>
    go_enter Tryd.func52, Tryd.ntmps52
    go_wp2
    go_ret
    exact ⟨v, rfl, H.out, ⟨rfl, rfl, rfl, Nat.le_refl _, fun _ _ _ => rfl⟩, .inl rfl⟩
  | false =>
    obtain ⟨S, hS⟩ : ∃ S, mk s = S := ⟨_, rfl⟩
    have hSz : S.size = s.length := by rw [← hS]; simp [ByteArray.size]
    rw [hS]
    have HS := Lib.hid hS
    clear hS
    by_cases hcut : 0 ≤ cut ∧ cut < s.length
    · obtain ⟨g, c, rfl, hg, _⟩ := H.out.buf.shape
      obtain ⟨n, rfl⟩ : ∃ n : Nat, cut = (n : Int) := ⟨cut.toNat, by omega⟩
      have hn : (n : Int) < (S.size : Int) := by omega
      have hn2 : n ≤ S.size := by omega
      have h0 : (0 : Int) ≤ (n : Int) := by omega
      have hmax : l.length + (S.extract 0 n).size ≤ 3000000 := by rw [ByteArray.size_extract]; omega
      have HSZ := Lib.hid hSz
      clear hcut hSz
      go_enter Tryd.func52, Tryd.ntmps52
      go_wp2_with fail
      have hbp : base ≤ w.heap.size := Nat.le_trans H.out.ge (Nat.le_of_lt (Array.getElem?_eq_some_iff.1 H.out.row).1)
      have HD := Lib.hid (show Dk w.drew base p _ l _ _ from ⟨H.out.row, H.out.buf, H.out.ge⟩)
      obtain ⟨L1, hL1⟩ : ∃ L1, l ++ (S.extract 0 n).data.toList = L1 := ⟨_, rfl⟩
      have HLL := Lib.hid hL1
      have hL2 : wrL false n l s = L1 := by
        rw [← hL1, ext_take, ← HS.out]
        unfold wrL
        rw [if_neg (by decide), if_pos ⟨h0, by rw [← HSZ.out]; exact hn⟩]
        simp
      have hC2 : wrC false n s = 11 := by unfold wrC; rw [if_neg (by decide), if_pos ⟨h0, by rw [← HSZ.out]; exact hn⟩]
      have hO2 : wrO false n s = true := by unfold wrO; rw [if_neg (by decide)]; exact decide_eq_true ⟨h0, by rw [← HSZ.out]; exact hn⟩
      have hN2 : wrN false n s = n := by unfold wrN; rw [if_neg (by decide), if_pos ⟨h0, by rw [← HSZ.out]; exact hn⟩]
      have HQ := Lib.hid (And.intro hC2 (And.intro hL2 (And.intro hO2 hN2)))
      clear hL1 hL2 hC2 hO2 hN2
      go_region_law (refine step_append_buf _ rfl (.tmp 28) (.tmp 34) 86 9 rfl base i0 Tryd.underlying86 Tryd.underlying9 hi0 hz0 hz1 hz2 (.slice (some ⟨g, 0, none⟩) l.length c) l rfl HD.out.buf (S.extract 0 n) rfl (by simp only [maxLen]; omega) (by omega) hbp ?_
                     intro v1 wb hb1 hg1 ho1
                     have hrb := HD.out.grown hg1
                     have c0 : wb.cell? ⟨p, 0, none⟩ = some (.slice (some ⟨g, 0, none⟩) l.length c) := by simp [World.cell?, hrb]
                     have d0 : wb.frozen? ⟨p, 0, none⟩ = false := by simp [World.frozen?, hrb]
                     rw [HLL.out] at hb1
                     obtain ⟨g1, c1, rfl, hgg1, _⟩ := hb1.shape
                     have HB1 := Lib.hid hb1
                     have HG1 := Lib.hid hg1
                     have HO1 := Lib.hid ho1
                     have HRB := Lib.hid hrb
                     clear hb1 hg1 ho1 hrb)
      all_goals (
        have hx := row_set HRB.out 0 (.slice (some ⟨g1, 0, none⟩) L1.length c1)
        have hfar : Far (fun k => k = p ∨ some k = Value.ownBlock (.slice (some ⟨g, 0, none⟩) l.length c)) w (wb.setCell ⟨p, 0, none⟩ (.slice (some ⟨g1, 0, none⟩) L1.length c1)) := (far_grown (p := p) HG1.out).drew.set (p := ⟨p, 0, none⟩) (.inl rfl) _
        have hbuf := HB1.out.set (p := ⟨p, 0, none⟩) (u := .slice (some ⟨g1, 0, none⟩) L1.length c1) (own_ne HB1.out HRB.out)
        obtain ⟨W2, hW2⟩ : ∃ W2, wb.setCell ⟨p, 0, none⟩ (.slice (some ⟨g1, 0, none⟩) L1.length c1) = W2 := ⟨_, rfl⟩
        rw [hW2] at hx hfar hbuf ⊢
        have hlow : Below base w W2 := hfar.below (fun k hk => by
          rcases hk with rfl | hk
          · exact H.out.ge
          · obtain rfl : k = g := by simpa [Value.ownBlock] using hk
            exact hg) hbp
        have cE2 : W2.cell? ⟨4, 0, none⟩ = _ := (hlow.cell hgb).trans cE
        have q1 : W2.cell? ⟨p, 1, none⟩ = some (.bool false) := cell_of hx rfl
        have e1 : W2.frozen? ⟨p, 1, none⟩ = false := by simp [World.frozen?, hx]
        have HX := Lib.hid hx
        have HFAR := Lib.hid hfar
        have HBUF := Lib.hid hbuf
        have hgp : 4 ≠ p := by have := H.out.ge; omega
        clear hx hfar hbuf hW2 c0 d0 k0 k1 k2 f0 f1 f2 cE hlow
        go_wp2
        go_ret
        obtain ⟨hC2, hL2, hO2, hN2⟩ := HQ.out
        rw [hC2, hL2, hO2, hN2]
        refine ⟨_, rfl, ⟨row_set HX.out 1 (.bool true), HBUF.out.set (p := ⟨p, 1, none⟩) (u := .bool true) (own_ne HBUF.out HX.out), H.out.ge⟩, HFAR.out.set (p := ⟨p, 1, none⟩) (.inl rfl) _, ?_⟩
        rcases HO1.out with h | h
        · exact .inl h
        · exact .inr ⟨_, h, Nat.le_refl _⟩)
    · have hC2 : wrC false cut s = 0 := by unfold wrC; rw [if_neg (by decide), if_neg hcut]
      have hL2 : wrL false cut l s = l ++ s := by unfold wrL; rw [if_neg (by decide), if_neg hcut]
      have hO2 : wrO false cut s = false := by unfold wrO; rw [if_neg (by decide)]; exact decide_eq_false hcut
      have hN2 : wrN false cut s = if 0 ≤ cut then cut - s.length else cut := by unfold wrN; rw [if_neg (by decide), if_neg hcut]
      have HQ := Lib.hid (And.intro hC2 (And.intro hL2 (And.intro hO2 hN2)))
      clear hC2 hL2 hO2 hN2
      obtain ⟨g, c, rfl, hg, _⟩ := H.out.buf.shape
      have hbp : base ≤ w.heap.size := Nat.le_trans H.out.ge (Nat.le_of_lt (Array.getElem?_eq_some_iff.1 H.out.row).1)
      have hSD : S.data.toList = s := by rw [← HS.out]
      have HSD := Lib.hid hSD
      have HSZ := Lib.hid hSz
      by_cases h0 : 0 ≤ cut
      · have h1 : ¬ (cut < (S.size : Int)) := by omega
        have hm1 : -9223372036854775808 ≤ cut - (S.size : Int) := by omega
        have HSZ2 := Lib.hid (show (((S.data.toList).length : Nat) : Int) = (S.size : Int) by simp)
        have hsz3 : S.size ≤ 3000000 := by omega
        have hl3 : l.length + S.size ≤ 3000000 := by omega
        have hD : Dk (w.setCell ⟨p, 2, none⟩ (.int .i64 (cut - (S.size : Int)))) base p (.slice (some ⟨g, 0, none⟩) l.length c) l false (cut - (S.size : Int)) := ⟨row_set H.out.row 2 _, H.out.buf.set (p := ⟨p, 2, none⟩) (own_ne H.out.buf H.out.row), H.out.ge⟩
        have hW0 : Far (fun k => k = p ∨ some k = Value.ownBlock (.slice (some ⟨g, 0, none⟩) l.length c)) w (w.setCell ⟨p, 2, none⟩ (.int .i64 (cut - (S.size : Int)))) := (Far.refl _ w).set (p := ⟨p, 2, none⟩) (.inl rfl) _
        have hsW : (w.setCell ⟨p, 2, none⟩ (.int .i64 (cut - (S.size : Int)))).heap.size = w.heap.size := by simp [World.setCell]
        have HD := Lib.hid hD
        have HW0 := Lib.hid hW0
        have HSW := Lib.hid hsW
        obtain ⟨L1, hL1⟩ : ∃ L1, l ++ S.data.toList = L1 := ⟨_, rfl⟩
        have HLL := Lib.hid hL1
        clear hcut hSz hSD hD hW0 hsW hL1
        go_enter Tryd.func52, Tryd.ntmps52
        go_wp2_with (first
          | (at_builtin
             refine wpList_append_buf _ rfl (.tmp 60) (.tmp 61) 86 9 rfl base i0 Tryd.underlying86 Tryd.underlying9 hi0 hz0 hz1 hz2 (.slice (some ⟨g, 0, none⟩) l.length c) l rfl HD.out.buf S rfl (by simp only [maxLen]; omega) (by omega) (by rw [HSW.out]; exact hbp) ?_
             intro v1 wb hb1 hg1 ho1
             have hrb := HD.out.grown hg1
             have c0 : wb.cell? ⟨p, 0, none⟩ = some (.slice (some ⟨g, 0, none⟩) l.length c) := by simp [World.cell?, hrb]
             have d0 : wb.frozen? ⟨p, 0, none⟩ = false := by simp [World.frozen?, hrb]
             rw [HLL.out] at hb1
             obtain ⟨g1, c1, rfl, hgg1, _⟩ := hb1.shape
             have HB1 := Lib.hid hb1
             have HG1 := Lib.hid hg1
             have HO1 := Lib.hid ho1
             have HRB := Lib.hid hrb
             clear hb1 hg1 ho1 hrb))
        go_ret
        obtain ⟨hC2, hL2, hO2, hN2⟩ := HQ.out
        rw [hC2, hL2, hO2, hN2, if_pos h0, ← HSD.out, HLL.out]
        refine ⟨_, rfl, ⟨by rw [HSZ2.out]; exact row_set HRB.out 0 _, HB1.out.set (p := ⟨p, 0, none⟩) (own_ne HB1.out HRB.out), H.out.ge⟩, (HW0.out.trans (far_grown (p := p) HG1.out)).set (p := ⟨p, 0, none⟩) (.inl rfl) _, ?_⟩
        rcases HO1.out with h | h
        · exact .inl h
        · exact .inr ⟨_, h, by rw [HSW.out]; exact Nat.le_refl _⟩
      · have h1 : cut < 0 := by omega
        have hsz3 : S.size ≤ 3000000 := by omega
        have hl3 : l.length + S.size ≤ 3000000 := by omega
        have hD : Dk w base p (.slice (some ⟨g, 0, none⟩) l.length c) l false cut := H.out
        have hW0 : Far (fun k => k = p ∨ some k = Value.ownBlock (.slice (some ⟨g, 0, none⟩) l.length c)) w w := Far.refl _ w
        have HD := Lib.hid hD
        have HW0 := Lib.hid hW0
        obtain ⟨L1, hL1⟩ : ∃ L1, l ++ S.data.toList = L1 := ⟨_, rfl⟩
        have HLL := Lib.hid hL1
        clear hcut hSz hSD hD hW0 hL1
        go_enter Tryd.func52, Tryd.ntmps52
        go_wp2_with (first
          | (at_builtin
             refine wpList_append_buf _ rfl (.tmp 60) (.tmp 61) 86 9 rfl base i0 Tryd.underlying86 Tryd.underlying9 hi0 hz0 hz1 hz2 (.slice (some ⟨g, 0, none⟩) l.length c) l rfl HD.out.buf S rfl (by simp only [maxLen]; omega) (by omega) hbp ?_
             intro v1 wb hb1 hg1 ho1
             have hrb := HD.out.grown hg1
             have c0 : wb.cell? ⟨p, 0, none⟩ = some (.slice (some ⟨g, 0, none⟩) l.length c) := by simp [World.cell?, hrb]
             have d0 : wb.frozen? ⟨p, 0, none⟩ = false := by simp [World.frozen?, hrb]
             rw [HLL.out] at hb1
             obtain ⟨g1, c1, rfl, hgg1, _⟩ := hb1.shape
             have HB1 := Lib.hid hb1
             have HG1 := Lib.hid hg1
             have HO1 := Lib.hid ho1
             have HRB := Lib.hid hrb
             clear hb1 hg1 ho1 hrb))
        go_ret
        obtain ⟨hC2, hL2, hO2, hN2⟩ := HQ.out
        rw [hC2, hL2, hO2, hN2, if_neg (by omega), ← HSD.out, HLL.out]
        refine ⟨_, rfl, ⟨row_set HRB.out 0 _, HB1.out.set (p := ⟨p, 0, none⟩) (own_ne HB1.out HRB.out), H.out.ge⟩, (HW0.out.trans (far_grown (p := p) HG1.out)).set (p := ⟨p, 0, none⟩) (.inl rfl) _, ?_⟩
        rcases HO1.out with h | h
        · exact .inl h
        · exact .inr ⟨_, h, Nat.le_refl _⟩
end Tp
end Go.Proofs.YtmlndamkcipebaaDoor
