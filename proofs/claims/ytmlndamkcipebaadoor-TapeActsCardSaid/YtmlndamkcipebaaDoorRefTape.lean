/- The reference's disk and tape. -/
import Derived.Test.YtmlndamkcipebaaDoorTapeJoins
import Derived.Test.YtmlndamkcipebaaDoorRefHead
import Derived.IntWalk
import Derived.RegionTactic
import Derived.BigRegion
import Derived.ChangeAlike
namespace Go.Proofs.YtmlndamkcipebaaDoor
open Go Go.RowKit Lmd
namespace Rtp
open Rul Day Cand Tp Rf

/-- a disk of a model -/
structure RDk (w : World) (p : Nat) (l : List UInt8) (off : Bool) (cut : Int) : Prop where
  row : w.heap[p]? = some (.cells #[.string (mk l), .bool off, .int .i64 cut] 78 (0, 0))
theorem RDk.below {w w' : World} {p : Nat} {l : List UInt8} {off : Bool} {cut : Int} (h : RDk w p l off cut) (hb : Below w.heap.size w w') : RDk w' p l off cut := ⟨row_below' h.row hb⟩
theorem RDk.cells {w : World} {p : Nat} {l : List UInt8} {off : Bool} {cut : Int} (h : RDk w p l off cut) :
    w.cell? ⟨p, 0, none⟩ = some (.string (Rul.mk l)) ∧ w.cell? ⟨p, 1, none⟩ = some (.bool off) ∧ w.cell? ⟨p, 2, none⟩ = some (.int .i64 cut) ∧ w.frozen? ⟨p, 0, none⟩ = false ∧ w.frozen? ⟨p, 1, none⟩ = false ∧ w.frozen? ⟨p, 2, none⟩ = false := by
  simp [World.cell?, World.frozen?, h.row]
theorem RDk.set0 {w : World} {p : Nat} {l k : List UInt8} {off : Bool} {cut : Int} (h : RDk w p l off cut) : RDk (w.setCell ⟨p, 0, none⟩ (.string (Rul.mk k))) p k off cut := ⟨row_set h.row 0 _⟩
theorem RDk.set1 {w : World} {p : Nat} {l : List UInt8} {off o2 : Bool} {cut : Int} (h : RDk w p l off cut) : RDk (w.setCell ⟨p, 1, none⟩ (.bool o2)) p l o2 cut := ⟨row_set h.row 1 _⟩
theorem RDk.set2 {w : World} {p : Nat} {l : List UInt8} {off : Bool} {cut c2 : Int} (h : RDk w p l off cut) : RDk (w.setCell ⟨p, 2, none⟩ (.int .i64 c2)) p l off c2 := ⟨row_set h.row 2 _⟩
theorem far_drew {S : Nat → Prop} {w w' : World} (h : Far S w w') : Far S w w'.drew := ⟨h.os, h.tape, h.output, h.size, h.block⟩
set_option maxRecDepth 100000 in
theorem setCut_any (w : World) (p : Nat) (l : List UInt8) (off : Bool) (cut n : Int) (h : RDk w p l off cut) :
    Calls Tryd.prog 47 #[.pointer (some ⟨p, 0, none⟩), .int .i64 n] w fun er w' => er = .returned (.int .i64 (cutC off n : Nat)) ∧ RDk w' p l off (if cutC off n = 0 then n else cut) ∧ Far (fun k => k = p) w w' := by
  obtain ⟨k0, k1, k2, f0, f1, f2⟩ := h.cells
  have H := Lib.hid h
  clear h
  by_cases h0 : n < 0
  · have hc : cutC off n = 2 := if_pos h0
    rw [hc]
    go_enter Tryd.func47, Tryd.ntmps47
    go_wp2
    go_ret
    exact ⟨rfl, H.out, Far.refl _ _⟩
  · cases off with
    | true =>
      have hc : cutC true n = 11 := by unfold cutC; rw [if_neg h0]; rfl
      rw [hc]
      go_enter Tryd.func47, Tryd.ntmps47
      go_wp2
      go_ret
      exact ⟨rfl, H.out, Far.refl _ _⟩
    | false =>
      have hc : cutC false n = 0 := by unfold cutC; rw [if_neg h0]; rfl
      rw [hc]
      go_enter Tryd.func47, Tryd.ntmps47
      go_wp2
      go_ret
      exact ⟨rfl, H.out.set2, (Far.refl (fun k => k = p) w).set (p := ⟨p, 2, none⟩) (show p = p from rfl) _⟩
theorem rrecord_any (s : List UInt8) (w : World) (hs : s.length ≤ 1000000) :
    Calls Tryd.prog 85 #[.string (mk s)] w fun e w' => e = .returned (.string (mk (recL s))) ∧ Below w.heap.size w w' := by
  have hde := fun W => Ref.decimal_any s.length (by omega) W
  have hdz : (⟨(Lib.decDigits s.length).toArray⟩ : ByteArray) = mk (Lib.itoa (s.length : Int)) := by rw [Lib.itoa_nonneg]
  simp only [hdz] at hde
  have hil := Lib.itoa_length_le (s.length : Int) (by omega) (by omega)
  have hrc : mk (Lib.itoa (s.length : Int)) ++ ⟨#[58]⟩ ++ mk s ++ ⟨#[10, 46]⟩ = mk (recL s) := by
    unfold recL
    rw [show (Lib.itoa (s.length : Int) ++ 58 :: (s ++ [10, 46])) = Lib.itoa (s.length : Int) ++ [58] ++ s ++ [10, 46] by simp, ← mk_cat, ← mk_cat, ← mk_cat]
    try rfl
  obtain ⟨I, hI⟩ : ∃ I, Lib.itoa (s.length : Int) = I := ⟨_, rfl⟩
  rw [hI] at hil hrc
  simp only [hI] at hde
  have HDE := Lib.hid hde
  have HRC := Lib.hid hrc
  have hsz : (mk s).size = s.length := rfl
  clear hde hdz hrc hI
  go_enter Tryd.func85, Tryd.ntmps85
  go_wp2_with fail
  (with_reducible refine (HDE.out _).mono ?_)
  rintro e1 w1 ⟨rfl, hb1⟩
  have HB1 := Lib.hid hb1
  clear hb1
  go_wp2_with fail
  go_ret
  exact ⟨by rw [HRC.out]; try rfl, HB1.out⟩
/-- what lies behind an append to a model's disk -/
def RApPost (w : World) (p : Nat) (l s : List UInt8) (off : Bool) (cut : Int) (er : Ending) (w' : World) : Prop :=
  er = .returned (.int .i64 (apC off cut l s : Nat)) ∧ RDk w' p (apL off cut l s) (apO off cut l s) (apN off cut l s) ∧ Far (fun k => k = p) w w'
set_option maxRecDepth 100000 in
set_option maxHeartbeats 1000000 in
theorem rappend_any (w : World) (p : Nat) (l s : List UInt8) (off : Bool) (cut : Int) (h : RDk w p l off cut) (hl : l.length ≤ 1048576) (hs : s.length ≤ 1000000) (hc : -1 ≤ cut ∧ cut ≤ 9223372036854775807) :
    Calls Tryd.prog 46 #[.pointer (some ⟨p, 0, none⟩), .string (mk s)] w (RApPost w p l s off cut) := by
  obtain ⟨k0, k1, k2, f0, f1, f2⟩ := h.cells
  have hsz : (mk s).size = s.length := rfl
  have H := Lib.hid h
  by_cases h1 : 10000 < s.length
  · have hb : apBad l s = 2 := if_pos h1
    have hi1 : (10000 : Int) < (s.length : Int) := by omega
    have HB := Lib.hid hb
    clear hb h h1
    go_enter Tryd.func46, Tryd.ntmps46
    go_wp2
    go_ret
    unfold RApPost apC apL apO apN
    rw [HB.out]
    exact ⟨rfl, H.out, Far.refl _ _⟩
  have hi1 : ¬ (10000 : Int) < (s.length : Int) := by omega
  have hre := rrecord_any s w hs
  have hrl : (recL s).length ≤ 10100 := by
    have := Lib.itoa_length_le (s.length : Int) (by omega) (by omega)
    unfold recL
    simp only [List.length_append, List.length_cons, List.length_nil]
    omega
  obtain ⟨R, hR⟩ : ∃ R, recL s = R := ⟨_, rfl⟩
  have hb2 : apBad l s = if 1048576 < R.length + l.length then 7 else 0 := by unfold apBad; rw [if_neg h1, hR]
  have hrz : (mk R).size = R.length := rfl
  have hlz : (mk l).size = l.length := rfl
  rw [hR] at hre hrl
  have HR := Lib.hid hR
  have HRE := Lib.hid hre
  have HB2 := Lib.hid hb2
  have hw0 : IntKind.i64.wrap ((l.length : Int) + (R.length : Int)) = (l.length : Int) + (R.length : Int) := IntWalk.i64_in _ (by omega)
  clear hre hb2 hR h k0 k1 k2 f0 f1 f2 h1
  by_cases h2 : 1048576 < R.length + l.length
  · have hb : apBad l s = 7 := by rw [HB2.out, if_pos h2]
    have hi2 : (1048576 : Int) < (l.length : Int) + (R.length : Int) := by omega
    have HB := Lib.hid hb
    clear hb h2
    go_enter Tryd.func46, Tryd.ntmps46
    go_wp2_with fail
    (with_reducible refine HRE.out.mono ?_)
    rintro e1 w1 ⟨rfl, hb1⟩
    have h1 := H.out.below hb1
    obtain ⟨k0, k1, k2, f0, f1, f2⟩ := h1.cells
    have H1 := Lib.hid h1
    have HB1 := Lib.hid hb1
    clear h1 hb1 HRE
    go_wp2
    go_ret
    unfold RApPost apC apL apO apN
    rw [HB.out]
    exact ⟨rfl, H1.out, Far.of_below HB1.out⟩
  have hb0 : apBad l s = 0 := by rw [HB2.out, if_neg h2]
  have hi2 : ¬ (1048576 : Int) < (l.length : Int) + (R.length : Int) := by omega
  have HB0 := Lib.hid hb0
  clear hb0 h2 HB2
  cases off with
  | true =>
    go_enter Tryd.func46, Tryd.ntmps46
    go_wp2_with fail
    (with_reducible refine HRE.out.mono ?_)
    rintro e1 w1 ⟨rfl, hb1⟩
    have h1 := H.out.below hb1
    obtain ⟨k0, k1, k2, f0, f1, f2⟩ := h1.cells
    have H1 := Lib.hid h1
    have HB1 := Lib.hid hb1
    clear h1 hb1 HRE
    go_wp2
    go_ret
    unfold RApPost apC apL apO apN
    rw [HB0.out]
    exact ⟨rfl, H1.out, Far.of_below HB1.out⟩
  | false =>
    by_cases h3 : 0 ≤ cut
    · by_cases h4 : cut < (R.length : Int)
      · obtain ⟨c, rfl⟩ : ∃ c : Nat, cut = (c : Int) := ⟨cut.toNat, by omega⟩
        have hcr : c ≤ R.length := by omega
        have hcr2 : (c : Int) ≤ (R.length : Int) := by omega
        have hcz : c ≤ (mk R).size := by omega
        have hext : (mk R).extract 0 c = mk (R.take c) := mk_of (by rw [ext_take])
        have hcat : mk l ++ mk (R.take c) = mk (l ++ R.take c) := mk_cat _ _
        have htl : (R.take c).length ≤ 10100 := by rw [List.length_take]; omega
        have hp : apC false (c : Int) l s = 11 ∧ apL false (c : Int) l s = l ++ R.take c ∧ apO false (c : Int) l s = true ∧ apN false (c : Int) l s = (c : Int) := by
          unfold apC apL apO apN wrC wrL wrO wrN
          rw [HB0.out, HR.out]
          simp [h4]
        have HP := Lib.hid hp
        clear hp
        go_enter Tryd.func46, Tryd.ntmps46
        go_wp2_with fail
        (with_reducible refine HRE.out.mono ?_)
        rintro e1 w1 ⟨rfl, hb1⟩
        have h1 := H.out.below hb1
        obtain ⟨k0, k1, k2, f0, f1, f2⟩ := h1.cells
        have H1 := Lib.hid h1
        have HB1 := Lib.hid hb1
        clear h1 hb1 HRE
        go_wp2_with fail
        go_region
        go_wp2
        go_ret
        obtain ⟨p1, p2, p3, p4⟩ := HP.out
        unfold RApPost
        rw [p1, p2, p3, p4]
        have h5 := (H1.out.set0 (k := l ++ R.take c)).set1 (o2 := true)
        exact ⟨rfl, ⟨h5.row⟩, far_drew (((Far.of_below (S := fun k => k = p) HB1.out).set (p := ⟨p, 0, none⟩) (show p = p from rfl) _).set (p := ⟨p, 1, none⟩) (show p = p from rfl) _)⟩
      · have hw1 : IntKind.i64.wrap (cut - (R.length : Int)) = cut - (R.length : Int) := IntWalk.i64_in _ (by omega)
        have hcat : mk l ++ mk R = mk (l ++ R) := mk_cat _ _
        have hp : apC false cut l s = 0 ∧ apL false cut l s = l ++ R ∧ apO false cut l s = false ∧ apN false cut l s = cut - (R.length : Int) := by
          unfold apC apL apO apN wrC wrL wrO wrN
          rw [HB0.out, HR.out]
          simp [h4, h3]
        have HP := Lib.hid hp
        clear hp
        go_enter Tryd.func46, Tryd.ntmps46
        go_wp2_with fail
        (with_reducible refine HRE.out.mono ?_)
        rintro e1 w1 ⟨rfl, hb1⟩
        have h1 := H.out.below hb1
        obtain ⟨k0, k1, k2, f0, f1, f2⟩ := h1.cells
        have H1 := Lib.hid h1
        have HB1 := Lib.hid hb1
        clear h1 hb1 HRE
        go_wp2
        go_ret
        obtain ⟨p1, p2, p3, p4⟩ := HP.out
        unfold RApPost
        rw [p1, p2, p3, p4]
        exact ⟨rfl, H1.out.set2.set0, ((Far.of_below (S := fun k => k = p) HB1.out).set (p := ⟨p, 2, none⟩) (show p = p from rfl) _).set (p := ⟨p, 0, none⟩) (show p = p from rfl) _⟩
    · have hcat : mk l ++ mk R = mk (l ++ R) := mk_cat _ _
      have hp : apC false cut l s = 0 ∧ apL false cut l s = l ++ R ∧ apO false cut l s = false ∧ apN false cut l s = cut := by
        unfold apC apL apO apN wrC wrL wrO wrN
        rw [HB0.out, HR.out]
        simp [h3]
      have HP := Lib.hid hp
      clear hp
      go_enter Tryd.func46, Tryd.ntmps46
      go_wp2_with fail
      (with_reducible refine HRE.out.mono ?_)
      rintro e1 w1 ⟨rfl, hb1⟩
      have h1 := H.out.below hb1
      obtain ⟨k0, k1, k2, f0, f1, f2⟩ := h1.cells
      have H1 := Lib.hid h1
      have HB1 := Lib.hid hb1
      clear h1 hb1 HRE
      go_wp2
      go_ret
      obtain ⟨p1, p2, p3, p4⟩ := HP.out
      unfold RApPost
      rw [p1, p2, p3, p4]
      exact ⟨rfl, H1.out.set0, (Far.of_below (S := fun k => k = p) HB1.out).set (p := ⟨p, 0, none⟩) (show p = p from rfl) _⟩
theorem grown_below' {w w' : World} {base B : Nat} {v : Value} {n : Nat} {e : TypeId} {xs : List Value} (ho : w.ownsRow base e 1 v n xs) (hg : w.grownBy w' v.ownBlock) (hB : B ≤ base) (hs : B ≤ w.heap.size) : Below B w w' :=
  ⟨hg.os, hg.tape, hg.output, hg.size, fun k hk => hg.block k (by omega) (fun e => by
    have := own_ge ho e.symm
    omega)⟩
theorem rdAt_under {s : ByteArray} {w : World} {D : List (List UInt8)} {r : List UInt8} {v : Value} {W W' : World} (h : RdAt s w D r v W) (hb : Below W.heap.size W W') : RdAt s w D r v W' :=
  ⟨h.cut, h.le, own_later h.own hb, h.below.trans (hb.mono h.below.size)⟩
theorem one_no1 {r : List UInt8} (h : ¬ 0 ≤ hdN 58 r) : oneB r = false := by
  unfold oneB; rw [(hd_neg h).1]; rfl
theorem one_no2 {r : List UInt8} {j : Nat} (h : 0 ≤ hdN 58 r) (hj : hdN 58 r = (j : Int)) (hb : 10000 < j ∨ (lenR 58 r).length < j + 2 ∨ (lenR 58 r)[j]? ≠ some 10 ∨ (lenR 58 r)[j + 1]? ≠ some 46) : oneB r = false := by
  obtain ⟨g1, g2, _⟩ := hd_drop h
  have e : lenN 58 r = (j : Int) := by omega
  cases ho : oneB r with
  | false => rfl
  | true =>
    simp only [oneB, Bool.and_eq_true, decide_eq_true_eq] at ho
    obtain ⟨⟨⟨_, h2⟩, h3⟩, h4⟩ := ho
    rw [e] at h2 h3 h4
    rw [Int.toNat_natCast] at h4
    have e0 : (lenR 58 r)[j]? = some 10 := by
      have := congrArg (fun l => l[0]?) h4
      simpa [List.getElem?_take, List.getElem?_drop] using this
    have e1 : (lenR 58 r)[j + 1]? = some 46 := by
      have := congrArg (fun l => l[1]?) h4
      simpa [List.getElem?_take, List.getElem?_drop] using this
    rcases hb with hb | hb | hb | hb
    · omega
    · omega
    · exact absurd e0 hb
    · exact absurd e1 hb
theorem one_yes {r : List UInt8} {j : Nat} (h : 0 ≤ hdN 58 r) (hj : hdN 58 r = (j : Int)) (h1 : j ≤ 10000) (h2 : j + 2 ≤ (lenR 58 r).length) (h3 : (lenR 58 r)[j]? = some 10) (h4 : (lenR 58 r)[j + 1]? = some 46) :
    oneB r = true ∧ oneS r = (lenR 58 r).take j ∧ ∃ r', r = recL ((lenR 58 r).take j) ++ r' ∧ (recL ((lenR 58 r).take j)).length = hdK 58 r + j + 2 ∧ ((lenR 58 r).take j).length ≤ 10000 := by
  obtain ⟨g1, g2, g3, g4, g5, g6⟩ := hd_drop h
  have e : lenN 58 r = (j : Int) := by omega
  have ho : oneB r = true := by
    simp only [oneB, Bool.and_eq_true, decide_eq_true_eq]
    rw [e, Int.toNat_natCast]
    refine ⟨⟨⟨g1, by omega⟩, by omega⟩, ?_⟩
    obtain ⟨a1, a2⟩ := List.getElem?_eq_some_iff.1 h3
    obtain ⟨b1, b2⟩ := List.getElem?_eq_some_iff.1 h4
    rw [List.drop_eq_getElem_cons a1, List.drop_eq_getElem_cons b1, a2, b2]
    rfl
  have hs : oneS r = (lenR 58 r).take j := by unfold oneS; rw [e, Int.toNat_natCast]
  obtain ⟨⟨r', hr'⟩, hl, hn⟩ := one_some ho
  rw [hs] at hr' hl hn
  refine ⟨ho, hs, r', hr', ?_, hl⟩
  have h5 := len_of (c := 58) (by decide) (n := ((((lenR 58 r).take j).length : Nat) : Int)) (by omega) (by omega) (((lenR 58 r).take j) ++ ([10, 46] ++ r'))
  have e2 : recL ((lenR 58 r).take j) ++ r' = Lib.itoa ((((lenR 58 r).take j).length : Nat) : Int) ++ 58 :: (((lenR 58 r).take j) ++ ([10, 46] ++ r')) := by simp [recL]
  rw [← e2, ← hr'] at h5
  have hx := congrArg List.length h5.2.2
  have hy := congrArg List.length g3
  have hz := congrArg List.length hr'
  simp only [List.length_append, List.length_cons, List.length_nil, List.length_drop] at hx hy hz
  omega
set_option maxRecDepth 100000 in
set_option maxHeartbeats 2000000 in
theorem readTape_any (s : ByteArray) (w : World) (hs : s.size ≤ 1100000) :
    Calls Tryd.prog 50 #[.string s] w (ReadPost s.data.toList w) := by
  obtain ⟨i0, hi0, hz0, hz1, hz2⟩ := info_parts string_info
  have hh : ∀ (r : List UInt8) (_ : r.length ≤ 1100000) (W : World), Calls Tryd.prog 68 #[.string (mk r), .int .u8 58] W fun e w' => e = .returned (.tuple #[.int .i64 (hdN 58 r), .int .i64 (hdK 58 r : Nat)]) ∧ ∃ q, w' = W.drewN q := fun r h W => head_any 58 r W (by omega)
  have HH := Lib.hid hh
  clear hh
  go_enter Tryd.func50, Tryd.ntmps50
  go_wp2_with fail
  go_loopw [4, 5] (fun v4 p wr => ∃ D r, p = .int .i64 ((recsL D).length : Int) ∧ RdAt s w D r v4 wr) (fun _ p _ => s.size - (intOf p).toNat)
  case atStart => exact ⟨[], s.data.toList, rfl, ⟨rfl, by simp, ⟨by simp [cellsS], .inl ⟨rfl, rfl⟩⟩, Below.refl _ _⟩⟩
  case round =>
    obtain ⟨D, r, rfl, hat⟩ := hrel
    obtain ⟨a4, c4, rfl⟩ := ownsRow_slice hat.own
    obtain ⟨hx, hz, h4⟩ := hat.rest
    obtain ⟨n, hn⟩ : ∃ n, (recsL D).length = n := ⟨_, rfl⟩
    rw [hn] at hx hz h4 ⊢
    have hns : n ≤ s.size := by omega
    have hns2 : (n : Int) ≤ (s.size : Int) := by omega
    have hsb := hat.below.size
    have hhr := HH.out r (by omega)
    have HAT := Lib.hid hat
    have HN := Lib.hid hn
    have HZ := Lib.hid hz
    have HHR := Lib.hid hhr
    have hxi := fun (a b : Nat) (h : n + a + b ≤ s.size) => (show s.extract (n + a) (n + a + b) = mk ((r.drop a).take b) from mk_of (by
      rw [ext_mid, HAT.out.cut, ← List.drop_drop, ← HN.out, List.drop_left]
      congr 1; omega))
    have hxj := fun (a : Nat) (y : UInt8) (h : n + a < s.size) (hy : r[a]? = some y) => (show (s[n + a] : UInt8) = y from at_of s (n + a) y h (by
      rw [HAT.out.cut, List.getElem?_append_right (by rw [HN.out]; omega), HN.out]
      rw [← hy]; congr 1; omega))
    have HXI := Lib.hid hxi
    have HXJ := Lib.hid hxj
    clear hat hn hz hhr hxi hxj
    by_cases h0 : 0 ≤ hdN 58 r
    · obtain ⟨g1, g2, g3, g4, g5, g6⟩ := hd_drop h0
      obtain ⟨k, hk⟩ : ∃ k, hdK 58 r = k := ⟨_, rfl⟩
      obtain ⟨j, hj⟩ : ∃ j : Nat, hdN 58 r = (j : Int) := ⟨(hdN 58 r).toNat, by omega⟩
      have hno := fun h => one_no2 h0 hj h
      have hye := fun a b c d => one_yes h0 hj a b c d
      rw [hk] at g3 g4 g5 hye HHR
      rw [hj] at HHR
      obtain ⟨R, hR⟩ : ∃ R, lenR 58 r = R := ⟨_, rfl⟩
      rw [hR] at hno hye g3
      have hRl : R.length = r.length - k := by rw [← g3, List.length_drop]
      have hjb : j < 1000000000 := by omega
      have HNO := Lib.hid hno
      have HYE := Lib.hid hye
      have HG3 := Lib.hid g3
      have hj0 : ¬ (j : Int) < 0 := by omega
      obtain ⟨m0, hm0⟩ : ∃ m0 : Nat, m0 = s.size - n := ⟨_, rfl⟩
      obtain ⟨f, hf⟩ : ∃ f : Nat, f = m0 - k := ⟨_, rfl⟩
      have hfr : f = R.length := by have := HZ.out; omega
      have hw5 : IntKind.i64.wrap ((s.size : Int) - (n : Int)) = (m0 : Int) := by
        rw [show (s.size : Int) - (n : Int) = (m0 : Int) by omega]; exact IntWalk.i64_in _ (by omega)
      have hw6 : IntKind.i64.wrap ((m0 : Int) - (k : Int)) = (f : Int) := by
        rw [show (m0 : Int) - (k : Int) = (f : Int) by have := HZ.out; omega]; exact IntWalk.i64_in _ (by omega)
      have hw7 : IntKind.i64.wrap ((j : Int) + 2) = ((j : Int) + 2) := IntWalk.i64_in _ (by omega)
      have HFR := Lib.hid hfr
      have HM0 := Lib.hid hm0
      have HF := Lib.hid hf
      clear hno hye g1 g2 g3 g6 hk hj hR hm0 hf hfr h0
      by_cases hbig : 10000 < j
      · have hbi : (10000 : Int) < (j : Int) := by omega
        have hd := HAT.out.done (HNO.out (.inl hbig))
        have HD := Lib.hid hd
        clear hd hbig hRl
        go_wp2_with fail
        (with_reducible refine (HHR.out _).mono ?_)
        rintro e1 w1 ⟨rfl, q, rfl⟩
        go_wp2_with fail
        go_ret2
        have hau := rdAt_under HAT.out (below_draw (Below.refl _ wr) q)
        exact ⟨_, by rw [HD.out, HN.out]; rfl, by rw [HD.out]; exact hau.own, hau.below⟩
      by_cases hsh : f < j + 2
      · have hbi : ¬ (10000 : Int) < (j : Int) := by omega
        have hsh2 : (f : Int) < (j : Int) + 2 := by omega
        have hd := HAT.out.done (HNO.out (.inr (.inl (by rw [← HFR.out]; exact hsh))))
        have HD := Lib.hid hd
        clear hd hbig hRl hsh
        go_wp2_with fail
        (with_reducible refine (HHR.out _).mono ?_)
        rintro e1 w1 ⟨rfl, q, rfl⟩
        go_wp2_with fail
        go_ret2
        have hau := rdAt_under HAT.out (below_draw (Below.refl _ wr) q)
        exact ⟨_, by rw [HD.out, HN.out]; rfl, by rw [HD.out]; exact hau.own, hau.below⟩
      have hbi : ¬ (10000 : Int) < (j : Int) := by omega
      have hsh2 : ¬ (f : Int) < (j : Int) + 2 := by omega
      have hjR : j + 2 ≤ R.length := by have := HFR.out; omega
      obtain ⟨y0, hy0⟩ : ∃ y, R[j]? = some y := ⟨_, List.getElem?_eq_getElem (by omega)⟩
      obtain ⟨y1, hy1⟩ : ∃ y, R[j + 1]? = some y := ⟨_, List.getElem?_eq_getElem (by omega)⟩
      have hr0 : r[k + j]? = some y0 := by rw [← hy0, ← HG3.out, List.getElem?_drop]
      have hr1 : r[k + j + 1]? = some y1 := by rw [← hy1, ← HG3.out, List.getElem?_drop]; congr 1
      obtain ⟨z0, e0⟩ : ∃ z : Nat, z = n + k := ⟨_, rfl⟩
      obtain ⟨z1, e1⟩ : ∃ z : Nat, z = z0 + j := ⟨_, rfl⟩
      obtain ⟨z2, e2⟩ : ∃ z : Nat, z = z1 + 1 := ⟨_, rfl⟩
      obtain ⟨z3, e3⟩ : ∃ z : Nat, z = z1 + 2 := ⟨_, rfl⟩
      have hnr := HZ.out
      have hw1 : IntKind.i64.wrap ((n : Int) + (k : Int)) = (z0 : Int) := by
        rw [show (n : Int) + (k : Int) = (z0 : Int) by omega]; exact IntWalk.i64_in _ (by omega)
      have hw2 : IntKind.i64.wrap ((z0 : Int) + (j : Int)) = (z1 : Int) := by
        rw [show (z0 : Int) + (j : Int) = (z1 : Int) by omega]; exact IntWalk.i64_in _ (by omega)
      have hw3 : IntKind.i64.wrap ((z1 : Int) + 1) = (z2 : Int) := by
        rw [show (z1 : Int) + 1 = (z2 : Int) by omega]; exact IntWalk.i64_in _ (by omega)
      have hw4 : IntKind.i64.wrap ((z1 : Int) + 2) = (z3 : Int) := by
        rw [show (z1 : Int) + 2 = (z3 : Int) by omega]; exact IntWalk.i64_in _ (by omega)
      have hb1 : z0 ≤ z1 := by omega
      have hb2 : z1 ≤ s.size := by omega
      have hb3 : (z0 : Int) ≤ (z1 : Int) := by omega
      have hb4 : (z1 : Int) ≤ (s.size : Int) := by omega
      have hb5 : z1 < s.size := by omega
      have hb6 : z2 < s.size := by omega
      have hb7 : (z1 : Int) < (s.size : Int) := by omega
      have hb8 : (z2 : Int) < (s.size : Int) := by omega
      have hS0 : (s[z1] : UInt8) = y0 := by
        have e : z1 = n + (k + j) := by omega
        subst e
        exact HXJ.out (k + j) y0 hb5 hr0
      have hS1 : (s[z2] : UInt8) = y1 := by
        have e : z2 = n + (k + j + 1) := by omega
        subst e
        exact HXJ.out (k + j + 1) y1 hb6 hr1
      have hext : s.extract z0 z1 = mk (R.take j) := by
        have e : z1 = n + k + j := by omega
        rw [e, e0, HXI.out k j (by omega), HG3.out]
      have hz3s : z3 ≤ s.size := by omega
      obtain ⟨X, hX⟩ : ∃ X, mk (R.take j) = X := ⟨_, rfl⟩
      rw [hX] at hext
      have HY0 := Lib.hid hy0
      have HY1 := Lib.hid hy1
      have HX := Lib.hid hX
      have HZ3 := Lib.hid (show z3 = n + k + j + 2 by omega)
      have hz3n : n < z3 := by omega
      have hj10 : j ≤ 10000 := by omega
      clear hr0 hr1 hy0 hy1 hX hbig hsh e0 e1 e2 e3 hnr hRl
      by_cases c0 : y0 = 10
      · by_cases c1 : y1 = 46
        · subst c0 c1
          obtain ⟨_, _, r', hr', hql, hxl⟩ := HYE.out hj10 hjR HY0.out HY1.out
          have HRR := Lib.hid hr'
          have HQL := Lib.hid hql
          have HXL := Lib.hid hxl
          have hD2 : (recsL (D ++ [R.take j])).length = z3 := by
            rw [recsL_snoc, List.length_append, HN.out, hql, HZ3.out]; omega
          have HD2 := Lib.hid hD2
          clear hr' hql hxl hD2
          go_wp2_with fail
          (with_reducible refine (HHR.out _).mono ?_)
          rintro e1 w1 ⟨rfl, q, rfl⟩
          have hau := rdAt_under HAT.out (below_draw (Below.refl _ wr) q)
          have hsz1 : w.heap.size ≤ (wr.drewN q).heap.size := hau.below.size
          have HOWN := Lib.hid hau.own
          have HAU := Lib.hid hau
          clear hau
          go_wp2_with (first
            | (at_builtin
               refine wpList_append_own _ rfl (.tmp 66) (.tmp 68) _ rfl w.heap.size 9 i0 _ 1 16 Tryd.underlying22 hi0 hz0 hz1 hz2 rfl (by omega) (.slice a4 D.length c4) D.length (cellsS (D.map mk)) rfl
                 (HOWN.out.alloc _) ⟨(wr.drewN q).heap.size, 0, none⟩ 1 1 [.string X] rfl rfl (cell_one_new _ _ _) (fun u hu => by simp at hu; subst hu; rfl) (by simp only [maxLen]; omega) (by omega) (by simp; omega) ?_
               intro v1 wb hown' hg2 hnil
               have HOB := Lib.hid hown'
               have HG2 := Lib.hid hg2
               clear hown' hg2 hnil))
          go_roundw
          case rel =>
            refine ⟨D ++ [R.take j], r', by rw [HD2.out], ?_, ?_, ?_, ?_⟩
            · rw [HAT.out.cut, recsL_snoc, List.append_assoc, ← HRR.out]
            · intro x hx
              rcases List.mem_append.1 hx with hx | hx
              · exact HAT.out.le x hx
              · rw [List.mem_singleton] at hx; subst hx; exact HXL.out
            · have hcs : cellsS ((D ++ [R.take j]).map mk) = cellsS (D.map mk) ++ [.string X] := by rw [← HX.out]; simp [cellsS]
              rw [hcs, List.length_append]
              exact HOB.out
            · have h1 := HAU.out.below.alloc hsz1 (.cells #[.string X] 9)
              exact h1.trans (grown_below' (HOWN.out.alloc _) HG2.out (Nat.le_refl _) h1.size)
          case measure => simp [intOf]; omega
        · have hd := HAT.out.done (HNO.out (.inr (.inr (.inr (by rw [HY1.out]; simpa using c1)))))
          have HD := Lib.hid hd
          have hy1 : ((y1.toNat : Int) != 46) = true := by
            rw [bne_iff_ne]; intro e; exact c1 (UInt8.toNat_inj.1 (by show y1.toNat = 46; omega))
          subst c0
          clear hd c1
          go_wp2_with fail
          (with_reducible refine (HHR.out _).mono ?_)
          rintro e1 w1 ⟨rfl, q, rfl⟩
          go_wp2_with fail
          go_ret2
          have hau := rdAt_under HAT.out (below_draw (Below.refl _ wr) q)
          exact ⟨_, by rw [HD.out, HN.out]; rfl, by rw [HD.out]; exact hau.own, hau.below⟩
      · have hd := HAT.out.done (HNO.out (.inr (.inr (.inl (by rw [HY0.out]; simpa using c0)))))
        have HD := Lib.hid hd
        have hy1 : ((y0.toNat : Int) != 10) = true := by
          rw [bne_iff_ne]; intro e; exact c0 (UInt8.toNat_inj.1 (by show y0.toNat = 10; omega))
        clear hd c0
        go_wp2_with fail
        (with_reducible refine (HHR.out _).mono ?_)
        rintro e1 w1 ⟨rfl, q, rfl⟩
        go_wp2_with fail
        go_ret2
        have hau := rdAt_under HAT.out (below_draw (Below.refl _ wr) q)
        exact ⟨_, by rw [HD.out, HN.out]; rfl, by rw [HD.out]; exact hau.own, hau.below⟩
    · have hd := HAT.out.done (one_no1 h0)
      have HD := Lib.hid hd
      have hn0 : hdN 58 r < 0 := by omega
      clear hd h0
      go_wp2_with fail
      (with_reducible refine (HHR.out _).mono ?_)
      rintro e1 w1 ⟨rfl, q, rfl⟩
      go_wp2_with fail
      go_ret2
      have hau := rdAt_under HAT.out (below_draw (Below.refl _ wr) q)
      exact ⟨_, by rw [HD.out, HN.out]; rfl, by rw [HD.out]; exact hau.own, hau.below⟩
/-- what lies behind a model's Recover -/
def RRecPost (w : World) (p : Nat) (l : List UInt8) (e : Ending) (w' : World) : Prop :=
  ∃ u, e = .returned u ∧ w'.ownsRow w.heap.size 9 1 u (readF l).1.length (cellsS ((readF l).1.map mk)) ∧ RDk w' p (l.take (readF l).2) false (-1) ∧ Far (fun k => k = p) w w'
set_option maxRecDepth 100000 in
set_option maxHeartbeats 800000 in
theorem rrecover_any (w : World) (p : Nat) (l : List UInt8) (off : Bool) (cut : Int) (h : RDk w p l off cut) (hl : l.length ≤ 1100000) :
    Calls Tryd.prog 49 #[.pointer (some ⟨p, 0, none⟩)] w (RRecPost w p l) := by
  obtain ⟨k0, k1, k2, f0, f1, f2⟩ := h.cells
  have hp : p < w.heap.size := (Array.getElem?_eq_some_iff.1 h.row).1
  have hrd := readTape_any (mk l) w (by show l.length ≤ _; exact hl)
  have e0 : (mk l).data.toList = l := rfl
  rw [e0] at hrd
  have hle := readF_le l
  obtain ⟨n, hn⟩ : ∃ n, (readF l).2 = n := ⟨_, rfl⟩
  obtain ⟨D, hD⟩ : ∃ D, (readF l).1 = D := ⟨_, rfl⟩
  unfold ReadPost at hrd
  rw [hn] at hle
  rw [hn, hD] at hrd
  have hlz : (mk l).size = l.length := rfl
  have hnz : n ≤ (mk l).size := hle
  have hni : (n : Int) ≤ (l.length : Int) := by omega
  have hext : (mk l).extract 0 n = mk (l.take n) := mk_of (by rw [ext_take])
  have HN := Lib.hid hn
  have HD := Lib.hid hD
  have HRD := Lib.hid hrd
  have H := Lib.hid h
  clear hn hD hrd h e0
  go_enter Tryd.func49, Tryd.ntmps49
  go_wp2_with fail
  (with_reducible refine HRD.out.mono ?_)
  rintro e1 w1 ⟨v, rfl, hown, hb1⟩
  have h1 := H.out.below hb1
  obtain ⟨k0, k1, k2, f0, f1, f2⟩ := h1.cells
  have H1 := Lib.hid h1
  have HB1 := Lib.hid hb1
  have HOWN := Lib.hid hown
  clear h1 hb1 hown HRD
  go_wp2
  go_ret
  unfold RRecPost
  rw [HN.out, HD.out]
  have h5 := ((H1.out.set0 (k := l.take n)).set1 (o2 := false)).set2 (c2 := -1)
  refine ⟨_, rfl, ?_, h5, (((Far.of_below (S := fun k => k = p) HB1.out).set (p := ⟨p, 0, none⟩) (show p = p from rfl) _).set (p := ⟨p, 1, none⟩) (show p = p from rfl) _).set (p := ⟨p, 2, none⟩) (show p = p from rfl) _⟩
  exact own_far (own_far (own_far HOWN.out (p := ⟨p, 0, none⟩) hp) (p := ⟨p, 1, none⟩) hp) (p := ⟨p, 2, none⟩) hp
end Rtp
end Go.Proofs.YtmlndamkcipebaaDoor
