/- DfLaw, Differed, BkLong1: texts joined. -/
import Derived.Test.YtghkalamlcfnnaaGreatDoorQC4
import Derived.Test.YtghkalamlcfnnaaGreatDoorQC3
import Derived.Test.YtghkalamlcfnnaaGreatDoorQBkSm
import Derived.Test.YtghkalamlcfnnaaGreatDoorQA13
import Derived.Deep.CutRange
import Derived.BigQuiet
section
namespace Go.Proofs.YtghkalamlcfnnaaGreatDoor
open Go Go.RowKit Go.Shelf Lmd
namespace Df
open Evt Bk Tp Rul Day Cand Er
noncomputable def dif (a b : List Ev) : List Chg := difU fieldL (uniI a b) a b
theorem book_fine {w : World} {B b m : Nat} {L : List Ev} (h : Book w B b m L) : Good L := ⟨h.asc, h.good, h.few⟩
theorem apP_good {w w' : World} {a : List Ev} {cs : List Chg} {er : Nat → Addr} {r : Ending} (h : ApP w a cs er r w') (hc : (apL 0 a cs).1 = 0) :
    Below w.heap.size w w' ∧ ∃ B, r = .returned (.tuple #[.pointer (some ⟨B + 1, 0, none⟩), .nilIface]) ∧ Book w' B (B + 1) B (apL 0 a cs).2.2 := by
  obtain ⟨h1, h2⟩ := h
  rw [if_pos hc] at h2
  obtain ⟨B, _, h3, h4⟩ := h2
  exact ⟨h1, B, h3, h4⟩
end Df
end Go.Proofs.YtghkalamlcfnnaaGreatDoor
end
section
namespace Go.Proofs.YtghkalamlcfnnaaGreatDoor
open Go Go.RowKit Go.Shelf Lmd
attribute [local go_sem] Oper.semAt_some
namespace Df
open Evt Bk Tp Rul Day Cand Er
theorem text_b0 : textE b0 = [97, 124, 124, 50, 48, 48, 48, 45, 48, 49, 45, 48, 56, 124, 49, 124, 111, 110, 99, 101, 124, 124] := by
  have hr : bad b0.ru = 0 := (badE_zero bad_b0).2.2.2.2.1
  have n1 : ∀ {a b : List UInt8}, a ≠ b → ¬ (⟨a.toArray⟩ : ByteArray).toList = b := fun h e => h (by rw [ByteArray.toList_eq] at e; simpa using e)
  have p1 : ∀ {a : List UInt8}, (⟨a.toArray⟩ : ByteArray).toList = a := by intro a; rw [ByteArray.toList_eq]
  have g1 : getL b0 fTitle = ⟨#[]⟩ := by unfold getL; rw [if_pos p1]; rfl
  have g2 : getL b0 fStart = mk [50, 48, 48, 48, 45, 48, 49, 45, 48, 56] := by
    unfold getL
    rw [if_neg (n1 (by decide)), if_pos p1]
    have ha : Cal.At 7 2000 1 8 := by unfold Cal.At Cal.Ok; decide
    show dayS 7 = _
    unfold dayS dayL
    rw [if_pos (by decide), dayT_at ha]
    rfl
  have g3 : getL b0 fLong = mk [49] := by
    unfold getL
    rw [if_neg (n1 (by decide)), if_neg (n1 (by decide)), if_pos p1]
    show mk (Lib.itoa 1) = _
    rw [itoa_1]
  have g4 : getL b0 fRule = mk [111, 110, 99, 101] := by
    unfold getL
    rw [if_neg (n1 (by decide)), if_neg (n1 (by decide)), if_neg (n1 (by decide)), if_pos p1, if_pos hr]
    unfold textL
    rw [if_pos (by show once.toList = _; rw [ByteArray.toList_eq])]
    rfl
  have g5 : getL b0 fSkips = mk [] := by
    unfold getL
    rw [if_neg (n1 (by decide)), if_neg (n1 (by decide)), if_neg (n1 (by decide)), if_neg (n1 (by decide)), if_pos p1]
    rfl
  have g6 : getL b0 fMoves = mk [] := by
    unfold getL
    rw [if_neg (n1 (by decide)), if_neg (n1 (by decide)), if_neg (n1 (by decide)), if_neg (n1 (by decide)), if_neg (n1 (by decide)), if_pos p1]
    rfl
  have hp : partsE b0 6 = [⟨#[97]⟩, ⟨#[]⟩, mk [50, 48, 48, 48, 45, 48, 49, 45, 48, 56], mk [49], mk [111, 110, 99, 101], mk [], mk []] := by
    show b0.id :: (List.map (getL b0) [fTitle, fStart, fLong, fRule, fSkips, fMoves]) = _
    simp only [List.map_cons, List.map_nil, g1, g2, g3, g4, g5, g6]
    rfl
  unfold textE
  rw [hp]
  rfl
def cB0 : Chg := ⟨⟨#[97]⟩, ⟨#[97, 108, 108]⟩, ⟨#[]⟩, ⟨#[97, 124, 124, 50, 48, 48, 48, 45, 48, 49, 45, 48, 56, 124, 49, 124, 111, 110, 99, 101, 124, 124]⟩⟩
theorem dif_b0 : difU fieldL (uniI [] [b0]) [] [b0] = [cB0] := by
  have h1 : Lmd.Cps.uniq [([97] : List UInt8)] = [[97]] := by
    unfold Lmd.Cps.uniq
    rw [List.mergeSort_singleton]
    exact Lib.compact_all _ (Lib.keeps_lt_one _)
  have h2 : uniI [] [b0] = [mk [97]] := by
    show (Lmd.Cps.uniq [([97] : List UInt8)]).map mk = _
    rw [h1]; rfl
  rw [h2]
  unfold difU
  rw [List.flatMap_cons, List.flatMap_nil, List.append_nil]
  unfold difF
  rw [if_pos (show hasK (mk [97]).data.toList [] = false from rfl)]
  show [(⟨mk [97], allB, nilB, mk (textE b0)⟩ : Chg)] = _
  rw [text_b0]; rfl
set_option maxRecDepth 100000 in
set_option maxHeartbeats 4000000 in
theorem differed_any (er : Nat → Addr) (w : World) (hT : Tb w er) :
    Calls Tryz.prog 19 #[] w fun r w' => r = .returned (.bool true) ∧ Below w.heap.size w w' := by
  have HT := Lib.hid hT
  have HN := Lib.hid (new_any w)
  clear hT
  go_enter Tryz.func19, Tryz.ntmps19
  go_wp2_with fail
  (with_reducible refine HN.out.mono ?_)
  rintro e1 w1 ⟨rfl, hbk, hb1⟩
  have HA := Lib.hid hbk
  have HB1 := Lib.hid hb1
  have HN1 := Lib.hid (new_any w1)
  clear hbk hb1
  go_wp2_with fail
  (with_reducible refine HN1.out.mono ?_)
  rintro e2 w2 ⟨rfl, hbk2, hb2⟩
  have HB := Lib.hid hbk2
  have HB2 := Lib.hid hb2
  have HS := Lib.hid (small_any ⟨#[97]⟩ 7 w2)
  clear hbk2 hb2
  go_wp2_with fail
  (with_reducible refine HS.out.mono ?_)
  rintro e3 w3 ⟨rfl, hb3⟩
  have HB3 := Lib.hid (HB2.out.trans (hb3.mono HB2.out.size))
  have hpu := put_any w3 _ _ _ [] b0 (.slice none 0 0) (.slice none 0 0) (.slice none 0 0) er (((HT.out.below HB1.out).below HB2.out).below hb3).errs (HB.out.below hb3) ⟨.inl ⟨rfl, _, _, rfl⟩, .inl ⟨rfl, _, _, rfl⟩, .inl ⟨rfl, _, _, rfl⟩⟩ ⟨by decide, by decide, by decide, by decide, by decide⟩
  unfold PutP at hpu
  rw [put_b0.1, put_b0.2] at hpu
  simp only [errV] at hpu
  have HPU := Lib.hid hpu
  clear hpu hb3
  go_wp2_with fail
  (with_reducible refine HPU.out.mono ?_)
  rintro e4 w4 ⟨rfl, hbk4, hfar4⟩
  have hb4 := HB3.out.trans (hfar4.below (B := w1.heap.size) (fun k hk => by omega) HB3.out.size)
  have HB4 := Lib.hid (HB1.out.trans (hb4.mono HB1.out.size))
  have hdf := diff_any w4 _ _ _ _ [] [b0] er (HT.out.below (HB1.out.trans (hb4.mono HB1.out.size))) (HA.out.below hb4).or hbk4.or
  unfold DiffP at hdf
  rw [dif_b0] at hdf
  have HDF := Lib.hid hdf
  clear hdf hbk4 hfar4 hb4
  go_wp2_with fail
  (with_reducible refine HDF.out.mono ?_)
  rintro e5 w5 ⟨v5, rfl, hown5, hb5⟩
  have hcr := creads_own hown5 rfl
  obtain ⟨a5, c5, rfl⟩ := hcr.shape
  obtain ⟨-, b, o, ea, hc⟩ := hcr.at (by simp)
  subst ea
  obtain ⟨k0, k1, k2, k3⟩ := hc 0 (by simp)
  rw [show elc [cB0] 0 = cB0 from rfl] at k0 k1 k2 k3
  rw [Nat.zero_mul, Nat.add_zero] at k0 k1 k2 k3
  have HB5 := Lib.hid (HB4.out.trans (hb5.mono HB4.out.size))
  have heq : ∀ w, (binOp .eql 55 (.agg #[.string cB0.id, .string cB0.fi, .string cB0.old, .string cB0.new]) (.agg #[.string cB0.id, .string cB0.fi, .string cB0.old, .string cB0.new])).run Tryz.prog w = .ok (.bool true) w := fun w => by
    have h := eql_chg cB0 cB0 w
    rwa [decide_eq_true rfl] at h
  unfold cB0 at k0 k1 k2 k3 heq
  dsimp only at k0 k1 k2 k3 heq
  simp only [List.length_singleton] at *
  clear hown5 hb5 hcr hc
  go_wp2
  go_ret
  exact ⟨rfl, HB5.out⟩
end Df
end Go.Proofs.YtghkalamlcfnnaaGreatDoor
end
section
namespace Go.Proofs.YtghkalamlcfnnaaGreatDoor
open Go Go.RowKit Go.Shelf Lmd
attribute [local go_sem] Oper.semAt_some
namespace Bk
open Evt Tp Rul Day Cand Er
set_option maxRecDepth 100000 in
set_option maxHeartbeats 4000000 in
theorem longE_any (xs : List EvV) (v : Value) (w : World) (hr : EReads w v xs) (hf : ∀ x ∈ xs, Fin64 x.e) :
    Calls Tryz.prog 9 #[v] w fun r w' => ∃ c : Int, r = .returned (.int .i64 c) ∧ 0 ≤ c ∧ c ≤ 1 ∧ (c ≤ 0 → xs.length ≤ 70 ∧ ∀ x ∈ xs, ¬ LongP x.e) ∧ Below w.heap.size w w' := by
  obtain ⟨a, cap, rfl⟩ := hr.shape
  obtain ⟨n, hn⟩ : ∃ n, xs.length = n := ⟨_, rfl⟩
  rw [hn] at hr ⊢
  by_cases hbig : (70 : Int) < (n : Int)
  · clear hr hf
    go_enter Tryz.func9, Tryz.ntmps9
    go_wp2
    go_ret
    exact ⟨1, rfl, by omega, by omega, fun h => by omega, Below.refl _ _⟩
  have hle : n ≤ 70 := by omega
  have HR := Lib.hid hr
  have HN := Lib.hid hn
  have HF := Lib.hid hf
  clear hr hn hf
  go_enter Tryz.func9, Tryz.ntmps9
  go_wp2_with fail
  go_loopw [3, 4] (fun z i wr => ∃ (k : Nat) (zz : Int), k ≤ n ∧ i = .int .i64 (k : Int) ∧ z = .int .i64 zz ∧ Below w.heap.size w wr ∧ ∀ j, j < k → ¬ LongP (el xs j).e) (fun _ i _ => n - (intOf i).toNat)
  case atStart => exact ⟨0, 0, Nat.zero_le _, rfl, rfl, Below.refl _ _, fun _ h => absurd h (Nat.not_lt_zero _)⟩
  case round =>
    obtain ⟨k, zz, hk, rfl, rfl, hbr, hs⟩ := hrel
    have HS := Lib.hid hs
    have hrr := HR.out.below hbr
    have HBR := Lib.hid hbr
    clear hs hbr
    by_cases hlt : k < n
    · obtain ⟨-, b, o, ha, hc⟩ := hrr.at (by intro h; have := HN.out; rw [h] at this; simp at this; omega)
      subst ha
      obtain ⟨⟨c0, c1', c2, c3, c4, c5, c6, c7, c8, c9, c10⟩, hrv⟩ := hc k (by rw [HN.out]; exact hlt)
      have hfx := HF.out _ (el_mem (xs := xs) (i := k) (by rw [HN.out]; exact hlt))
      obtain ⟨x, hx⟩ : ∃ x, el xs k = x := ⟨_, rfl⟩
      rw [hx] at c0 c1' c2 c3 c4 c5 c6 c7 c8 c9 c10 hrv hfx
      obtain ⟨e, vd, vs, vm⟩ := x
      dsimp only at c0 c1' c2 c3 c4 c5 c6 c7 c8 c9 c10 hrv hfx
      obtain ⟨a6, c6', rfl⟩ := hrv.d.shape
      obtain ⟨a9, c9', rfl⟩ := hrv.s.shape
      obtain ⟨a10, c10', rfl⟩ := hrv.m.shape
      obtain ⟨la, hla⟩ : ∃ la : Int, (if LongP e then (1 : Int) else 0) = la := ⟨_, rfl⟩
      have hlo := fun W' (h : Below wr.heap.size wr W') => longEvent_any e _ _ _ W' (hrv.below h) hfx
      rw [hla] at hlo
      have HLA := Lib.hid hla
      have HLO := Lib.hid hlo
      have HX := Lib.hid hx
      have HF9 := Lib.hid (And.intro hfx.sk (And.intro hfx.mv hfx.ti))
      clear hla hlo hc hrr hx hrv hfx
      go_upto_region 7 with fail
      go_cut [3] from 8 (fun z wc => (∃ zz : Int, z = .int .i64 zz) ∧ Below wr.heap.size wr wc)
      case first =>
        go_quiet (fail)
        go_wp2_with fail
        go_meet
        exact ⟨⟨_, rfl⟩, below_draw (Below.refl _ _) _⟩
      case rest =>
        obtain ⟨⟨z2, rfl⟩, hbc⟩ := hcut
        obtain ⟨d0, d1, d2, d3, d4, d5, d6, d7, d8, d9, d10⟩ : At11 wc b (o + k * 11) ⟨e, .slice a6 e.ru.ds.length c6', .slice a9 e.sk.length c9', .slice a10 e.mv.length c10'⟩ := At11.below ⟨c0, c1', c2, c3, c4, c5, c6, c7, c8, c9, c10⟩ hbc
        dsimp only at d0 d1 d2 d3 d4 d5 d6 d7 d8 d9 d10
        have HLO2 := Lib.hid (HLO.out wc hbc)
        have HBC := Lib.hid (HBR.out.trans (hbc.mono HBR.out.size))
        clear hbc c0 c1' c2 c3 c4 c5 c6 c7 c8 c9 c10
        go_upto_region 8 with fail
        go_cut [45] from 36 (fun s wd => s = .bool (decide (0 < la) || decide (1500 < z2)) ∧ Below wc.heap.size wc wd)
        case first =>
          go_wp2_with fail
          (with_reducible refine HLO2.out.mono ?_)
          rintro e1 w1 ⟨rfl, hb1⟩
          by_cases h0 : 0 < la
          · go_wp2_with fail
            go_meet
            exact ⟨by rw [decide_eq_true (show 0 < la by omega), Bool.true_or], hb1⟩
          · by_cases h1 : (1500 : Int) < z2
            · go_wp2_with fail
              go_meet
              exact ⟨by rw [decide_eq_true (show (1500 : Int) < z2 by omega), Bool.or_true], hb1⟩
            · go_wp2_with fail
              go_meet
              exact ⟨by rw [decide_eq_false (show ¬ 0 < la by omega), decide_eq_false (show ¬ (1500 : Int) < z2 by omega), Bool.or_self], hb1⟩
        case rest =>
          obtain ⟨rfl, hbd⟩ := hcut
          have HBD := Lib.hid (HBC.out.trans (hbd.mono HBC.out.size))
          clear hbd d0 d1 d2 d3 d4 d5 d6 d7 d8 d9 d10
          obtain ⟨q, hq⟩ : ∃ q, (decide (0 < la) || decide ((1500 : Int) < z2)) = q := ⟨_, rfl⟩
          rw [hq]
          cases q with
          | true =>
            clear hq
            go_wp2
            go_ret
            exact ⟨1, rfl, by omega, by omega, fun h => by omega, HBD.out⟩
          | false =>
            have hla : ¬ 0 < la := by
              intro h
              rw [decide_eq_true h, Bool.true_or] at hq
              cases hq
            have HNL := Lib.hid (show ¬ LongP e by
              intro h
              have := HLA.out
              rw [if_pos h] at this
              omega)
            clear hq hla
            go_wp2
            go_roundw
            case rel => exact ⟨k + 1, z2, by omega, by go_num, rfl, HBD.out, fun j hj => by
              by_cases ej : j = k
              · subst ej; rw [HX.out]; exact HNL.out
              · exact HS.out j (by omega)⟩
            case measure => simp [intOf]; omega
    · obtain rfl : k = n := by omega
      go_wp2
      go_ret
      exact ⟨0, rfl, by omega, by omega, fun _ => ⟨hle, fun x hx => by
        obtain ⟨j, hj, rfl⟩ := mem_elV.1 hx
        exact HS.out j (by rw [← HN.out]; exact hj)⟩, HBR.out⟩
end Bk
end Go.Proofs.YtghkalamlcfnnaaGreatDoor
end
