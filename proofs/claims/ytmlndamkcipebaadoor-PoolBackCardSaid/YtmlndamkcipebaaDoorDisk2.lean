/- package tape: tape.Append, Recover, and the small methods of a disk. -/
import Derived.Test.YtmlndamkcipebaaDoorDisk
import Derived.IntWalk
namespace Go.Proofs.YtmlndamkcipebaaDoor
open Go Go.RowKit Lmd
namespace Tp
open Rul Day Cand

theorem below_drew {B : Nat} {a w : World} (h : Below B a w) : Below B a w.drew := below_draw h 1
theorem drew_cell {W : World} {p : Addr} {v : Value} (h : W.cell? p = some v) : W.drew.cell? p = some v := h
theorem Far.of_below {S : Nat → Prop} {w w' : World} (h : Below w.heap.size w w') : Far S w w' := ⟨h.os, h.tape, h.output, h.size, fun k hk _ => h.block k hk⟩
theorem WrPost.later {e : Nat → Addr} {w w2 : World} {base p : Nat} {v : Value} {c : Nat} {l : List UInt8} {off : Bool} {cut : Int} {er : Ending} {w' : World} (h : WrPost e w2 base p v c l off cut er w') (hb : Below w.heap.size w w2) : WrPost e w base p v c l off cut er w' := by
  obtain ⟨v', h1, h2, h3, h4⟩ := h
  refine ⟨v', h1, h2, (Far.of_below hb).trans h3, ?_⟩
  rcases h4 with h4 | ⟨k, h4, h5⟩
  · exact .inl h4
  · exact .inr ⟨k, h4, Nat.le_trans hb.size h5⟩
/-- an append of a record: the error's number, the bytes, is power off, the bytes until it fails -/
def apBad (l s : List UInt8) : Nat := if 10000 < s.length then 2 else if 1048576 < (recL s).length + l.length then 7 else 0
def apC (off : Bool) (cut : Int) (l s : List UInt8) : Nat := if apBad l s = 0 then wrC off cut (recL s) else apBad l s
def apL (off : Bool) (cut : Int) (l s : List UInt8) : List UInt8 := if apBad l s = 0 then wrL off cut l (recL s) else l
def apO (off : Bool) (cut : Int) (l s : List UInt8) : Bool := if apBad l s = 0 then wrO off cut (recL s) else off
def apN (off : Bool) (cut : Int) (l s : List UInt8) : Int := if apBad l s = 0 then wrN off cut (recL s) else cut
set_option maxRecDepth 100000 in
set_option maxHeartbeats 800000 in
theorem append_any (w : World) (base p : Nat) (v : Value) (l s : List UInt8) (off : Bool) (cut : Int) (e : Nat → Addr) (h : Dk w base p v l off cut) (he : ET w e) (hl : l.length ≤ 1048576) (hs : s.length ≤ 1000000) (hc : -1 ≤ cut ∧ cut ≤ 9223372036854775807) (hgb : 4 < base)
    (htab : Lib.TabIs Tryd.prog w "internal/strconv.uint64pow10" .u64 Lib.pow10Tab) :
    Calls Tryd.prog 13 #[.pointer (some ⟨p, 0, none⟩), .string (mk s)] w (WrPost e w base p v (apC off cut l s) (apL off cut l s) (apO off cut l s) (apN off cut l s)) := by
  obtain ⟨k0, k1, k2, f0, f1, f2⟩ := h.cells
  obtain ⟨g, c, rfl, hg, _⟩ := h.buf.shape
  have c1 := he.s1.cell
  have c6 := he.s6.cell
  have hrec := fun W (h : Below w.heap.size w W) => record_any s W (by omega) (Frame.tab_below (g := 12) (by kernel_rfl) h htab)
  have hsz : (mk s).size = s.length := by simp [ByteArray.size]
  obtain ⟨S, hS⟩ : ∃ S, mk s = S := ⟨_, rfl⟩
  rw [hS] at hsz hrec ⊢
  have HREC := Lib.hid hrec
  have HSZ := Lib.hid hsz
  have HE := Lib.hid he
  have H := Lib.hid h
  have HT := Lib.hid htab
  have HS := Lib.hid hS
  clear h he hrec hS htab
  by_cases h1 : 10000 < s.length
  · have hb : apBad l s = 2 := by unfold apBad; rw [if_pos h1]
    have hsz2 : (10000 : Int) < (S.size : Int) := by omega
    have HB := Lib.hid hb
    clear hb hsz h1
    go_enter Tryd.func13, Tryd.ntmps13
    go_wp2
    go_ret
    unfold apC apL apO apN
    rw [HB.out]
    exact ⟨_, rfl, H.out, Far.refl _ _, .inl rfl⟩
  · have hsz2 : ¬ ((10000 : Int) < (S.size : Int)) := by omega
    have hrz : (mk (recL s)).size = (recL s).length := by simp [ByteArray.size]
    have hrl := recL_le s (by omega)
    obtain ⟨R, hR⟩ : ∃ R, mk (recL s) = R := ⟨_, rfl⟩
    rw [hR] at HREC hrz
    have hrz2 : R.size ≤ 2000000 := by omega
    have HRZ := Lib.hid hrz
    have HR := Lib.hid hR
    clear hsz hrz hR
    go_enter Tryd.func13, Tryd.ntmps13
    go_wp2_with fail
    have HD0 := Lib.hid (below_drew (Below.refl w.heap.size w))
    have HK0 := Lib.hid (drew_cell k0)
    go_cut [14] from 15 (fun s14 wc => s14 = .bool (decide ((1048576 : Int) - (l.length : Int) < (R.size : Int))) ∧ Below w.heap.size w wc)
    case first =>
      have hs1 : IntKind.i64.wrap ((1048576 : Int) - (l.length : Int)) = (1048576 : Int) - (l.length : Int) := IntWalk.i64_in _ (by omega)
      go_region_with (first
        | (go_at_call 51; (with_reducible refine (HREC.out w.drew HD0.out).mono ?_); rintro e1 w1 ⟨rfl, hb1⟩; have k0b := cell_later hb1 HK0.out))
      all_goals go_wp2_with fail
      all_goals go_meet
      all_goals exact ⟨rfl, HD0.out.trans hb1⟩
    case rest =>
      obtain ⟨rfl, hbc⟩ := hcut
      have HD := Lib.hid (H.out.below hbc)
      have c6' := cell_later hbc c6
      have HBC := Lib.hid hbc
      by_cases hf : (1048576 : Int) - (l.length : Int) < (R.size : Int)
      · have hb : apBad l s = 7 := by
          unfold apBad
          rw [if_neg h1, if_pos (by have := HRZ.out; omega)]
        have HB := Lib.hid hb
        clear hb hbc c6 k0 k1 k2 f0 f1 f2
        go_wp2
        go_ret
        unfold apC apL apO apN
        rw [HB.out]
        exact ⟨_, rfl, HD.out, Far.of_below HBC.out, .inl rfl⟩
      · have hb : apBad l s = 0 := by
          unfold apBad
          rw [if_neg h1, if_neg (by have := HRZ.out; omega)]
        have HB := Lib.hid hb
        have hrc := HREC.out wc hbc
        have HRC := Lib.hid hrc
        clear hb hbc c6 c6' k0 k1 k2 f0 f1 f2 hrc HREC
        go_wp2_with fail
        (with_reducible refine HRC.out.mono ?_)
        rintro e1 w2 ⟨rfl, hb2⟩
        have hbw := HBC.out.trans (hb2.mono HBC.out.size)
        have hwr := write_any w2 base p _ l (recL s) off cut e (H.out.below hbw) (HE.out.below hbw) (by omega) hc hgb
        have hR := HR.out
        rw [hR] at hwr
        have HWR := Lib.hid hwr
        have HBW := Lib.hid hbw
        clear hb2 hbw hwr hR HRC
        go_wp2_with fail
        (with_reducible refine HWR.out.mono ?_)
        rintro e2 w3 hpost
        have hp2 := WrPost.later hpost HBW.out
        obtain ⟨v', rfl, h3, h4, h5⟩ := hp2
        have H3 := Lib.hid h3
        have H4 := Lib.hid h4
        have H5 := Lib.hid h5
        clear hpost h3 h4 h5 HWR
        go_wp2
        go_ret
        unfold apC apL apO apN
        rw [HB.out]
        exact ⟨v', rfl, H3.out, H4.out, H5.out⟩
end Tp
end Go.Proofs.YtmlndamkcipebaaDoor
