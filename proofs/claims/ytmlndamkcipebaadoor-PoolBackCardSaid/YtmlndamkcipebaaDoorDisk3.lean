/- package tape: Recover, and the small methods of a disk. -/
import Derived.Test.YtmlndamkcipebaaDoorDisk2
namespace Go.Proofs.YtmlndamkcipebaaDoor
open Go Go.RowKit Lmd
namespace Tp
open Rul Day Cand

set_option maxRecDepth 100000 in
set_option maxHeartbeats 800000 in
theorem on_any (w : World) (base p : Nat) (v : Value) (l : List UInt8) (off : Bool) (cut : Int) (h : Dk w base p v l off cut) :
    Calls Tryd.prog 48 #[.pointer (some ⟨p, 0, none⟩)] w fun e w' => e = .returned (.tuple #[]) ∧ Dk w' base p v l false (-1) ∧ Far (fun k => k = p) w w' := by
  obtain ⟨k0, k1, k2, f0, f1, f2⟩ := h.cells
  have H := Lib.hid h
  clear h
  go_enter Tryd.func48, Tryd.ntmps48
  go_wp2
  go_end0
  refine ⟨rfl, ⟨row_set (row_set H.out.row 1 (.bool false)) 2 (.int .i64 (-1)), ?_, H.out.ge⟩, ?_⟩
  · exact (H.out.buf.set (p := ⟨p, 1, none⟩) (u := .bool false) (own_ne H.out.buf H.out.row)).set (p := ⟨p, 2, none⟩) (own_ne H.out.buf H.out.row)
  · exact ((Far.refl (fun k => k = p) w).set (p := ⟨p, 1, none⟩) (show p = p from rfl) _).set (p := ⟨p, 2, none⟩) (show p = p from rfl) _
set_option maxRecDepth 100000 in
set_option maxHeartbeats 800000 in
theorem power_any (w : World) (base p : Nat) (v : Value) (l : List UInt8) (off : Bool) (cut : Int) (h : Dk w base p v l off cut) :
    Calls Tryd.prog 21 #[.pointer (some ⟨p, 0, none⟩)] w fun e w' => e = .returned (.bool (!off)) ∧ w' = w := by
  obtain ⟨k0, k1, k2, f0, f1, f2⟩ := h.cells
  clear h
  go_enter Tryd.func21, Tryd.ntmps21
  go_wp2
  go_ret
  exact ⟨rfl, rfl⟩
def cutC (off : Bool) (n : Int) : Nat := if n < 0 then 2 else if off = true then 11 else 0
set_option maxRecDepth 100000 in
set_option maxHeartbeats 800000 in
theorem cut_any (w : World) (base p : Nat) (v : Value) (l : List UInt8) (off : Bool) (cut n : Int) (e : Nat → Addr) (h : Dk w base p v l off cut) (he : ET w e) :
    Calls Tryd.prog 19 #[.pointer (some ⟨p, 0, none⟩), .int .i64 n] w fun er w' => er = .returned (errV e (cutC off n)) ∧ Dk w' base p v l off (if cutC off n = 0 then n else cut) ∧ Far (fun k => k = p) w w' := by
  obtain ⟨k0, k1, k2, f0, f1, f2⟩ := h.cells
  have c1 := he.s1.cell
  have c10 := he.s10.cell
  have H := Lib.hid h
  clear h he
  by_cases h0 : n < 0
  · have hc : cutC off n = 2 := if_pos h0
    rw [hc]
    go_enter Tryd.func19, Tryd.ntmps19
    go_wp2
    go_ret
    exact ⟨rfl, H.out, Far.refl _ _⟩
  · cases off with
    | true =>
      have hc : cutC true n = 11 := by unfold cutC; rw [if_neg h0]; rfl
      rw [hc]
      go_enter Tryd.func19, Tryd.ntmps19
      go_wp2
      go_ret
      exact ⟨rfl, H.out, Far.refl _ _⟩
    | false =>
      have hc : cutC false n = 0 := by unfold cutC; rw [if_neg h0]; rfl
      rw [hc]
      go_enter Tryd.func19, Tryd.ntmps19
      go_wp2
      go_ret
      exact ⟨rfl, ⟨row_set H.out.row 2 _, H.out.buf.set (p := ⟨p, 2, none⟩) (own_ne H.out.buf H.out.row), H.out.ge⟩, (Far.refl (fun k => k = p) w).set (p := ⟨p, 2, none⟩) (show p = p from rfl) _⟩
theorem readT_le : ∀ (k : Nat) (l : List UInt8), (readT k l).2 ≤ l.length
  | 0, _ => Nat.zero_le _
  | k + 1, l => by
    simp only [readT]
    split
    · rename_i h
      obtain ⟨⟨r, hr⟩, _⟩ := one_some h
      have h2 := readT_le k (l.drop (recL (oneS l)).length)
      have h3 : (recL (oneS l)).length ≤ l.length := by
        have := congrArg List.length hr
        rw [List.length_append] at this; omega
      rw [List.length_drop] at h2
      simp only; omega
    · exact Nat.zero_le _
theorem readF_le (l : List UInt8) : (readF l).2 ≤ l.length := readT_le _ l
/-- what lies behind tape.Recover -/
def RecPost (w : World) (base p : Nat) (v : Value) (l : List UInt8) (e : Ending) (w' : World) : Prop :=
  ∃ u v', e = .returned (.tuple #[u, .nilIface]) ∧ w'.ownsRow w.heap.size 9 1 u (readF l).1.length (cellsS ((readF l).1.map mk)) ∧ Dk w' base p v' (l.take (readF l).2) false (-1) ∧ v'.ownBlock = v.ownBlock ∧ Far (fun k => k = p) w w'
theorem own_base {w : World} {b b' : Nat} {e : TypeId} {v : Value} {n : Nat} {xs : List Value} (h : w.ownsRow b e 1 v n xs) (hb : b' ≤ b) : w.ownsRow b' e 1 v n xs := by
  refine ⟨h.1, ?_⟩
  rcases h.2 with hx | ⟨g, cap, cur, h1, h2, h3⟩
  · exact .inl hx
  · exact .inr ⟨g, cap, cur, h1, Nat.le_trans hb h2, h3⟩
theorem far_low {w w' W0 : World} {p : Nat} (h : Far (fun k => k = p) w w') (hW : Below W0.heap.size W0 w) (hp : W0.heap.size ≤ p) : Below W0.heap.size W0 w' :=
  hW.trans (h.below (fun k hk => by rw [hk]; exact hp) hW.size)
set_option maxRecDepth 100000 in
set_option maxHeartbeats 800000 in
theorem recover_any (W0 w : World) (p : Nat) (v : Value) (l : List UInt8) (off : Bool) (cut : Int) (m : Int) (h : Dk w W0.heap.size p v l off cut) (hW : Below W0.heap.size W0 w) (hl : l.length ≤ 1100000) (hE : ELib W0) (htab : Lib.TabIs Tryd.prog W0 "internal/strconv.uint64pow10" .u64 Lib.pow10Tab) (hm : W0.cell? ⟨13, 0, none⟩ = some (.int .i64 m)) :
    Calls Tryd.prog 20 #[.pointer (some ⟨p, 0, none⟩)] w (RecPost w W0.heap.size p v l) := by
  have hon := on_any w W0.heap.size p v l off cut h
  have HON := Lib.hid hon
  have HE := Lib.hid hE
  have HT := Lib.hid htab
  have HM := Lib.hid hm
  have H := Lib.hid h
  have HW := Lib.hid hW
  clear h hon hE htab hm hW
  go_enter Tryd.func20, Tryd.ntmps20
  go_wp2_with fail
  (with_reducible refine HON.out.mono ?_)
  rintro e1 w1 ⟨rfl, h1, hf1⟩
  obtain ⟨g, c, rfl, hg, _⟩ := h1.buf.shape
  obtain ⟨k0, k1, k2, f0, f1, f2⟩ := h1.cells
  have hcv := string_of_buf w1 g c W0.heap.size l h1.buf
  have hb1 := far_low hf1 HW.out h1.ge
  have hrd := read_any (mk l) m w1 (by simp [ByteArray.size]; omega) (HE.out.below hb1) (Frame.tab_below (g := 12) (by kernel_rfl) hb1 HT.out) (cell_later hb1 HM.out)
  have e0 : (mk l).data.toList = l := rfl
  rw [e0] at hrd
  have HRD := Lib.hid hrd
  have H1 := Lib.hid h1
  have HF1 := Lib.hid hf1
  clear hrd h1 hf1 hb1 e0 HON
  go_wp2_with fail
  (with_reducible refine HRD.out.mono ?_)
  rintro e2 w2 ⟨u, rfl, hown, hb2⟩
  obtain ⟨ua, uc, rfl⟩ := ownsRow_slice hown
  have h2 := H1.out.below hb2
  obtain ⟨k0, k1, k2, f0, f1, f2⟩ := h2.cells
  have hsp := readF_le l
  obtain ⟨n, hn⟩ : ∃ n, (readF l).2 = n := ⟨_, rfl⟩
  obtain ⟨D, hD⟩ : ∃ D, (readF l).1 = D := ⟨_, rfl⟩
  have hnl : n ≤ l.length := by rw [← hn]; exact hsp
  have hnc : n ≤ c := Nat.le_trans hnl h2.buf.le
  have HN := Lib.hid hn
  have HD := Lib.hid hD
  rw [hD] at hown ⊢
  rw [hn] at ⊢
  have H2 := Lib.hid h2
  have HOWN := Lib.hid hown
  have HB2 := Lib.hid hb2
  clear h2 hown hb2 hn hD hcv HRD
  go_wp2
  go_ret2
  have hlt : (l.take n).length = n := by rw [List.length_take]; omega
  have hcutb := H2.out.buf.cut (a := l.take n) (b := l.drop n) (List.take_append_drop n l).symm
  rw [hlt] at hcutb
  have hp1 : p < w1.heap.size := (Array.getElem?_eq_some_iff.1 H1.out.row).1
  have ho := own_base (own_far HOWN.out (p := ⟨p, 0, none⟩) (u := .slice (some ⟨g, 0, none⟩) n n) hp1) HF1.out.size
  refine ⟨_, _, rfl, ?_, ⟨row_set H2.out.row 0 _, by rw [HN.out]; exact hcutb.set (p := ⟨p, 0, none⟩) (own_ne hcutb H2.out.row), H2.out.ge⟩, rfl, ?_⟩
  · rw [HD.out]; exact ho
  · exact (HF1.out.trans (Far.of_below HB2.out)).set (p := ⟨p, 0, none⟩) (show p = p from rfl) _
end Tp
end Go.Proofs.YtmlndamkcipebaaDoor
