/- package event: moves, of any moves. -/
import Derived.Test.YtkhkhbeolhhomaaGreatDoorEvText
import Derived.Deep.RegionHeld3
import Derived.Deep.AppendLies
namespace Go.Proofs.YtkhkhbeolhhomaaGreatDoor
open Go Go.RowKit Go.Shelf Lmd
attribute [local go_sem] Oper.semAt_some
namespace Evt
open Rul Day Cand Er

theorem cat3 (a b : List UInt8) : mk a ++ ⟨#[62]⟩ ++ mk b = mk (a ++ [62] ++ b) := by
  have h1 := Day.cat a [62]
  have h2 := Day.cat (a ++ [62]) b
  show (⟨a.toArray⟩ ++ ⟨[62].toArray⟩ : ByteArray) ++ ⟨b.toArray⟩ = _
  rw [h1, h2]
theorem belowT {w a b : World} (h : Below w.heap.size w a) (k : Below a.heap.size a b) : Below w.heap.size w b := h.trans (k.mono h.size)
set_option maxRecDepth 100000 in
set_option maxHeartbeats 4000000 in
theorem moves_any (xs : List (Int × Int)) (v : Value) (er : Nat → Addr) (w : World) (hT : Tb w er) (hr : MReads w v xs) (hl : xs.length ≤ 100000) :
    Calls Tryz.prog 111 #[v] w fun e w' => e = .returned (.string (mk (movesL xs))) ∧ Below w.heap.size w w' := by
  obtain ⟨i0, hi0, hz0, hz1, hz2⟩ := info_parts string_info
  obtain ⟨a, cap, rfl⟩ := hr.shape
  have hll := movesL_len xs
  have HR := Lib.hid hr
  have HT := Lib.hid hT
  have HLL := Lib.hid hll
  obtain ⟨n, hn⟩ : ∃ n, xs.length = n := ⟨_, rfl⟩
  have HN := Lib.hid hn
  rw [hn] at hl HR ⊢
  clear hr hT hn hll
  go_enter Tryz.func111, Tryz.ntmps111
  go_wp2_with fail
  go_loopw [3, 8] (fun v3 p wr => ∃ k : Nat, k ≤ n ∧ p = .int .i64 (k : Int) ∧ (∃ a c, v3 = .slice a k c) ∧ wr.ownsRow w.heap.size 9 1 v3 ((xs.take k).map moveS).length (cellsS ((xs.take k).map moveS)) ∧ Below w.heap.size w wr) (fun _ p _ => n - (intOf p).toNat)
  case atStart => exact ⟨0, Nat.zero_le _, rfl, ⟨none, 0, rfl⟩, ⟨by simp [cellsS], .inl ⟨rfl, rfl⟩⟩, Below.refl _ _⟩
  case round =>
    obtain ⟨k, hk, rfl, ⟨a7, c7, rfl⟩, hown, hbr⟩ := hrel
    have hsr := hbr.size
    have hnb : some wr.heap.size ≠ (Value.slice a7 k c7).ownBlock := by
      intro e
      rcases hown.2 with ⟨h, _⟩ | ⟨g, cap, cur, h, _, hg, _⟩
      · rw [h] at e; simp [Value.ownBlock] at e
      · rw [h] at e
        simp [Value.ownBlock] at e
        have := (Array.getElem?_eq_some_iff.1 hg).1; omega
    have HNB := Lib.hid hnb
    clear hnb
    have HOWN := Lib.hid hown
    have HBR := Lib.hid hbr
    have hfl : ((xs.take k).map moveS).length = k := by rw [List.length_map, List.length_take, HN.out]; omega
    by_cases hlt : k < n
    · obtain ⟨-, b, o, ha9, hc⟩ := (HR.out.below hbr).at (by intro h; have := HN.out; rw [h] at this; simp at this; omega)
      subst ha9
      obtain ⟨c1, c2⟩ := hc k (by rw [HN.out]; exact hlt)
      have hsn : (xs.take (k + 1)).map moveS = (xs.take k).map moveS ++ [moveS (ml xs k)] := by
        rw [List.take_succ_eq_append_getElem (by rw [HN.out]; exact hlt), List.map_append, ml_lt (by rw [HN.out]; exact hlt)]; rfl
      obtain ⟨m, hm⟩ : ∃ m, ml xs k = m := ⟨_, rfl⟩
      obtain ⟨m1, m2⟩ := m
      rw [hm] at c1 c2 hsn
      simp only at c1 c2
      obtain ⟨wm, hwm⟩ : ∃ wm, wr.alloc (.cells #[.int .i64 m1, .int .i64 m2] 54) = wm := ⟨_, rfl⟩
      have hal : Below wr.heap.size wr wm := by rw [← hwm]; exact (Below.refl _ wr).alloc (Nat.le_refl _) _
      have hx : wm.heap[wr.heap.size]? = some (.cells #[.int .i64 m1, .int .i64 m2] 54) := by rw [← hwm]; exact heap_new wr _
      have hTm := HT.out.below (hbr.trans (hal.mono hsr))
      have hd1 := fun W (h : Below wm.heap.size wm W) => dayText_any m1 er W (hTm.below h)
      have hd2 := fun W (h : Below wm.heap.size wm W) => dayText_any m2 er W (hTm.below h)
      obtain ⟨T1, hT1⟩ : ∃ T, dayL m1 = T := ⟨_, rfl⟩
      obtain ⟨T2, hT2⟩ : ∃ T, dayL m2 = T := ⟨_, rfl⟩
      have h1l := dayL_len m1
      have h2l := dayL_len m2
      unfold dayS at hd1 hd2
      unfold moveS at hsn
      rw [hT1] at hd1 h1l
      rw [hT2] at hd2 h2l
      simp only at hsn
      rw [hT1, hT2] at hsn
      have HD1 := Lib.hid hd1
      have HD2 := Lib.hid hd2
      have HSN := Lib.hid hsn
      have hok := HOWN.out
      rw [hfl] at hok
      have HOK := Lib.hid hok
      have HFL := Lib.hid hfl
      clear hok
      have HWM := Lib.hid hwm
      have HAL := Lib.hid hal
      have HX := Lib.hid hx
      have HSR := Lib.hid hsr
      clear hown hbr hc hm hsn hfl hT1 hT2 hd1 hd2 hwm hal hx hTm
      go_upto_region 5 with fail
      rw [HWM.out]
      have hc0 : wm.cell? ⟨wr.heap.size, 0, none⟩ = some (.int .i64 m1) := cell_of HX.out rfl
      have hc1 : wm.cell? ⟨wr.heap.size, 1, none⟩ = some (.int .i64 m2) := cell_of HX.out rfl
      have HC0 := Lib.hid hc0
      have HC1 := Lib.hid hc1
      have hacc : Below wm.heap.size wm wm.drew := below_draw (Below.refl _ _) 1
      have hsm : wm.heap.size = wr.heap.size + 1 := by rw [← HWM.out]; simp
      have HSM := Lib.hid hsm
      have g1 : ¬ 9223372036854775807 < T1.length + 1 := by omega
      have g2 : ¬ 9223372036854775807 < T1.length + 1 + T2.length := by omega
      clear hsm c1 c2 hsr
      go_region_held3 (fun W => W.cell? ⟨wr.heap.size, 0, none⟩ = some (.int .i64 m1) ∧ W.cell? ⟨wr.heap.size, 1, none⟩ = some (.int .i64 m2))
        (first
          | exact ⟨cell_later hacc HC0.out, cell_later hacc HC1.out⟩
          | exact ⟨cell_later (hacc.alloc hacc.size _) HC0.out, cell_later (hacc.alloc hacc.size _) HC1.out⟩
          | (go_split_ands
             refine ⟨?_, ?_⟩
             · (rw [hgrow.cell_far _ (by have := hacc.size; have := HSM.out; simp; omega) HNB.out]; assumption)
             · (rw [hgrow.cell_far _ (by have := hacc.size; have := HSM.out; simp; omega) HNB.out]; assumption)))
        (first
          | ((with_reducible refine (HD1.out _ hacc).mono ?_); rintro e1 wq ⟨rfl, hbq⟩; replace hacc := belowT hacc hbq; clear hbq)
          | ((with_reducible refine (HD2.out _ hacc).mono ?_); rintro e1 wq ⟨rfl, hbq⟩; replace hacc := belowT hacc hbq; clear hbq)
          | (refine step_append_lies _ (by rfl) _ _ _ (by rfl) w.heap.size 9 i0 _ 1 16 Tryz.underlying30 hi0 hz0 hz1 hz2 rfl (by omega) (.slice a7 k c7) k (cellsS ((xs.take k).map moveS)) (by rfl) ((own_below HOK.out (HAL.out.trans (hacc.mono HAL.out.size))).alloc _)
              ⟨_, 0, none⟩ 1 1 [.string (mk T1 ++ ⟨#[62]⟩ ++ mk T2)] (by rfl) (by rfl) (World.news_of_block (cs := #[.string (mk T1 ++ ⟨#[62]⟩ ++ mk T2)]) (t := 9) (fr := (0, 0)) (heap_alloc_new _ _)) (by simp [Value.oneCell']) (by omega) (by simp only [maxLen]; omega) (by omega) (by have := hacc.size; have := HSM.out; have := HSR.out; simp; omega) _ rfl ?_
             intro gg cap w1 hown1 hgrow hat hlt2))
      all_goals (
        have hb1 : Below w.heap.size wr wq := (HAL.out.trans (hacc.mono HAL.out.size)).mono HSR.out
        have hbb := HBR.out.trans ((hb1.alloc (by have := hacc.size; have := HSM.out; have := HSR.out; omega) _).trans ((Below.refl w.heap.size _).grown hgrow (by have := hacc.size; have := HSM.out; have := HSR.out; simp; omega) (fun j ej => own_ge HOWN.out ej)))
        have HBB := Lib.hid hbb
        have hown2 : w1.ownsRow w.heap.size 9 1 (.slice (some ⟨gg, 0, none⟩) (k + 1) cap) ((xs.take (k + 1)).map moveS).length (cellsS ((xs.take (k + 1)).map moveS)) := by
          have hsn : (xs.take (k + 1)).map moveS = (xs.take k).map moveS ++ [mk (T1 ++ [62] ++ T2)] := HSN.out
          rw [hsn, List.length_append, HFL.out, ← cat3]
          have e : cellsS ((xs.take k).map moveS ++ [mk T1 ++ ⟨#[62]⟩ ++ mk T2]) = cellsS ((xs.take k).map moveS) ++ [.string (mk T1 ++ ⟨#[62]⟩ ++ mk T2)] := by simp [cellsS]
          rw [e]; exact hown1
        have HOB := Lib.hid hown2
        clear hown1 hown2 hbb hb1 hgrow hat hlt2 hacc
        go_wp2
        go_roundw
        case rel => exact ⟨k + 1, by omega, by simp, ⟨_, _, rfl⟩, HOB.out, HBB.out⟩
        case measure => simp [intOf]; omega)
    · obtain rfl : k = n := by omega
      have htk : xs.take xs.length = xs := List.take_length
      rw [HN.out] at htk
      rw [htk] at HOWN
      have hj := join_any (xs.map moveS) (.slice a7 k c7) w.heap.size ⟨#[44]⟩ wr HOWN.out (by rw [List.length_map, HN.out]; omega) (by
        show (movesL xs).length ≤ _
        have := HLL.out; have := HN.out; omega)
      have HJ := Lib.hid (show Calls Tryz.prog 104 #[.slice a7 k c7, .string ⟨#[44]⟩] wr fun e w' => e = .returned (.string (mk (movesL xs))) ∧ Below wr.heap.size wr w' from hj)
      clear hown hbr htk hj hfl
      go_wp2_with fail
      (with_reducible refine HJ.out.mono ?_)
      rintro e3 w3 ⟨rfl, hb3⟩
      have HB3 := Lib.hid (HBR.out.trans (hb3.mono HBR.out.size))
      clear hb3
      go_wp2
      go_ret
      exact ⟨rfl, HB3.out⟩
end Evt
end Go.Proofs.YtkhkhbeolhhomaaGreatDoor
