/- EvText, EvMoves, EvClone: texts joined. -/
import Derived.Test.YtghkalamlcfnnaaGreatDoorQEvLists
import Derived.Test.YtghkalamlcfnnaaGreatDoorQNumPlain
import Derived.Deep.RegionHeld3
import Derived.Deep.AppendLies
import Derived.Test.YtghkalamlcfnnaaGreatDoorQEvOwn
import Derived.Test.YtghkalamlcfnnaaGreatDoorQA6
section
namespace Go.Proofs.YtghkalamlcfnnaaGreatDoor
open Go Go.RowKit Go.Shelf Lmd
attribute [local go_sem] Oper.semAt_some
namespace Evt
open Rul Day Cand Er
structure Tb (w : World) (er : Nat → Addr) : Prop where
  errs : E7 w er
  tab : Lib.TabIs Tryz.prog w "internal/strconv.uint64pow10" .u64 Lib.pow10Tab
theorem Tb.below {w w' : World} {er : Nat → Addr} (h : Tb w er) (hb : Below w.heap.size w w') : Tb w' er :=
  ⟨h.errs.below hb, Frame.tab_below (g := 15) (by kernel_rfl) hb h.tab⟩
noncomputable def dayL (n : Int) : List UInt8 := open Classical in if 0 ≤ n ∧ n ≤ 73048 then dayT n else []
noncomputable def dayS (n : Int) : ByteArray := mk (dayL n)
theorem dayL_len (n : Int) : (dayL n).length ≤ 10 := by
  unfold dayL
  split
  · rename_i h
    obtain ⟨y, m, d, ha⟩ := Cal.at_exists n h.1 h.2
    rw [dayT_at ha]
    exact Nat.le_refl _
  · exact Nat.zero_le _
theorem dayText_any (n : Int) (er : Nat → Addr) (w : World) (h : Tb w er) :
    Calls Tryz.prog 141 #[.int .i64 n] w fun e w' => e = .returned (.string (dayS n)) ∧ Below w.heap.size w w' := by
  unfold dayS dayL
  by_cases hd : 0 ≤ n ∧ n ≤ 73048
  · rw [if_pos hd]
    obtain ⟨y, m, d, ha⟩ := Cal.at_exists n hd.1 hd.2
    rw [dayT_at ha]
    exact text_at n y m d w ha h.tab
  · rw [if_neg hd]
    exact (text_no n (er 1) w hd h.errs.s1.cell).mono fun _ _ ⟨h1, k, h2⟩ => ⟨h1, by rw [h2]; exact below_drewN (Below.refl _ _) k⟩
theorem join_any (xs : List ByteArray) (v : Value) (base : Nat) (sep : ByteArray) (w : World) (h : w.ownsRow base 9 1 v xs.length (cellsS xs)) (hl : xs.length ≤ 1000000) (hj : (Lib.join (xs.map (·.data.toList)) sep.data.toList).length ≤ 1000000000) :
    Calls Tryz.prog 110 #[v, .string sep] w fun e w' => e = .returned (.string (mk (Lib.join (xs.map (·.data.toList)) sep.data.toList))) ∧ Below w.heap.size w w' := by
  rcases reads_ownS h rfl with ⟨rfl, rfl⟩ | ⟨g, cap, rfl, h2, h3, h4⟩
  · exact (Tryz.strings_Join_none none 0 sep w).mono fun _ _ ⟨h1, h2⟩ => ⟨by rw [h1]; rfl, by rw [h2]; exact Below.refl _ _⟩
  · exact Tryz.strings_Join g 0 cap xs sep w h4 h3 (by omega) h2 (by omega)
theorem join_len (sep : List UInt8) (n : Nat) : ∀ xs : List (List UInt8), (∀ x ∈ xs, x.length ≤ n) → (Lib.join xs sep).length ≤ (n + sep.length) * xs.length
  | [], _ => by simp [Lib.join]
  | [x], h => by
    have := h x (by simp)
    simp [Lib.join]; omega
  | x :: y :: t, h => by
    have h1 := h x (by simp)
    have h2 := join_len sep n (y :: t) (fun z hz => h z (by simp [hz]))
    have e : Lib.join (x :: y :: t) sep = x ++ sep ++ Lib.join (y :: t) sep := by simp [Lib.join]
    rw [e]
    simp only [List.length_append, List.length_cons] at h2 ⊢
    have e2 : (n + sep.length) * (t.length + 1 + 1) = (n + sep.length) * (t.length + 1) + (n + sep.length) := by rw [Nat.mul_add (n + sep.length) (t.length + 1) 1, Nat.mul_one]
    omega
noncomputable def skipsL (xs : List Int) : List UInt8 := Lib.join ((xs.map dayS).map (·.data.toList)) [44]
noncomputable def moveS (m : Int × Int) : ByteArray := mk (dayL m.1 ++ [62] ++ dayL m.2)
noncomputable def movesL (xs : List (Int × Int)) : List UInt8 := Lib.join ((xs.map moveS).map (·.data.toList)) [44]
theorem mk_list (l : List UInt8) : (mk l).data.toList = l := rfl
theorem skipsL_len (xs : List Int) : (skipsL xs).length ≤ 11 * xs.length := by
  have := join_len [44] 10 ((xs.map dayS).map (·.data.toList)) (fun x hx => by
    simp only [List.map_map, List.mem_map] at hx
    obtain ⟨d, _, rfl⟩ := hx
    show (mk (dayL d)).data.toList.length ≤ 10
    rw [mk_list]; exact dayL_len d)
  simpa [skipsL] using this
theorem movesL_len (xs : List (Int × Int)) : (movesL xs).length ≤ 22 * xs.length := by
  have := join_len [44] 21 ((xs.map moveS).map (·.data.toList)) (fun x hx => by
    simp only [List.map_map, List.mem_map] at hx
    obtain ⟨m, _, rfl⟩ := hx
    show (mk _).data.toList.length ≤ 21
    rw [mk_list]
    have h1 := dayL_len m.1
    have h2 := dayL_len m.2
    simp only [List.length_append, List.length_cons, List.length_nil]; omega)
  simpa [movesL] using this
set_option maxRecDepth 100000 in
set_option maxHeartbeats 2000000 in
theorem skips_any (xs : List Int) (v : Value) (er : Nat → Addr) (w : World) (hT : Tb w er) (hr : Ints.Reads w v xs) (hl : xs.length ≤ 1000000) :
    Calls Tryz.prog 144 #[v] w fun e w' => e = .returned (.string (mk (skipsL xs))) ∧ Below w.heap.size w w' := by
  obtain ⟨a, cap, rfl⟩ := hr.shape
  have hll := skipsL_len xs
  have HR := Lib.hid hr
  have HT := Lib.hid hT
  have HLL := Lib.hid hll
  obtain ⟨n, hn⟩ : ∃ n, xs.length = n := ⟨_, rfl⟩
  have HN := Lib.hid hn
  rw [hn] at hl HR ⊢
  clear hr hT hn hll
  go_enter Tryz.func144, Tryz.ntmps144
  go_wp2_with fail
  go_loopw [3, 8] (fun v3 p wr => ∃ k : Nat, k ≤ n ∧ p = .int .i64 (k : Int) ∧ (∃ a c, v3 = .slice a k c) ∧ wr.ownsRow w.heap.size 9 1 v3 ((xs.take k).map dayS).length (cellsS ((xs.take k).map dayS)) ∧ Below w.heap.size w wr) (fun _ p _ => n - (intOf p).toNat)
  case atStart => exact ⟨0, Nat.zero_le _, rfl, ⟨none, 0, rfl⟩, ⟨by simp [cellsS], .inl ⟨rfl, rfl⟩⟩, Below.refl _ _⟩
  case round =>
    obtain ⟨k, hk, rfl, ⟨a7, c7, rfl⟩, hown, hbr⟩ := hrel
    have hsr := hbr.size
    have HOWN := Lib.hid hown
    have HBR := Lib.hid hbr
    have hfl : ((xs.take k).map dayS).length = k := by rw [List.length_map, List.length_take, HN.out]; omega
    by_cases hlt : k < n
    · obtain ⟨-, b, o, ha9, hc⟩ := (HR.out.below hbr).at (by intro h; have := HN.out; rw [h] at this; simp at this; omega)
      subst ha9
      have c1 := hc k (by rw [HN.out]; exact hlt)
      have hsn : (xs.take (k + 1)).map dayS = (xs.take k).map dayS ++ [dayS (Ints.el xs k)] := by
        rw [List.take_succ_eq_append_getElem (by rw [HN.out]; exact hlt), List.map_append, Ints.el_lt (by rw [HN.out]; exact hlt)]; rfl
      obtain ⟨x, hx⟩ : ∃ x, Ints.el xs k = x := ⟨_, rfl⟩
      rw [hx] at c1 hsn
      have hdt := dayText_any x er wr (HT.out.below hbr)
      obtain ⟨T, hTT⟩ : ∃ T, dayS x = T := ⟨_, rfl⟩
      rw [hTT] at hdt hsn
      have HDT := Lib.hid hdt
      have HSN := Lib.hid hsn
      have HFL := Lib.hid hfl
      clear hown hbr hc hx hsn hfl hTT hdt
      go_wp2_with fail
      (with_reducible refine HDT.out.mono ?_)
      rintro e2 w2 ⟨rfl, hb2⟩
      have HB2 := Lib.hid hb2
      have HS2 := Lib.hid hb2.size
      clear hb2
      go_wp2_with (at_builtin
                   refine append_str rfl (.tmp 12) (.tmp 15) rfl w.heap.size (.slice a7 k c7) ((xs.take k).map dayS) rfl ((own_below HOWN.out HB2.out).alloc _) w2.heap.size T rfl (cell_of (heap_new w2 _) rfl) (by rw [HFL.out]; omega) (by have := HS2.out; simp; omega) ?_
                   intro a1 c2 wb hown' hbb
                   rw [HFL.out] at hown' ⊢
                   have HOB := Lib.hid hown'
                   have HBB := Lib.hid (HBR.out.trans (((HB2.out.mono hsr).alloc (by have := HS2.out; omega) _).trans hbb))
                   clear hown' hbb)
      go_roundw
      case rel => exact ⟨k + 1, by omega, by simp, ⟨a1, c2, rfl⟩, by rw [HSN.out]; exact HOB.out, HBB.out⟩
      case measure => simp [intOf]; omega
    · obtain rfl : k = n := by omega
      have htk : xs.take xs.length = xs := List.take_length
      rw [HN.out] at htk
      rw [htk] at HOWN
      have hj := join_any (xs.map dayS) (.slice a7 k c7) w.heap.size ⟨#[44]⟩ wr HOWN.out (by rw [List.length_map, HN.out]; omega) (by
        show (skipsL xs).length ≤ _
        have := HLL.out; have := HN.out; omega)
      have HJ := Lib.hid (show Calls Tryz.prog 110 #[.slice a7 k c7, .string ⟨#[44]⟩] wr fun e w' => e = .returned (.string (mk (skipsL xs))) ∧ Below wr.heap.size wr w' from hj)
      clear hown hbr htk hj hfl
      go_wp2_with fail
      (with_reducible refine HJ.out.mono ?_)
      rintro e3 w3 ⟨rfl, hb3⟩
      have HB3 := Lib.hid (HBR.out.trans (hb3.mono HBR.out.size))
      clear hb3
      go_wp2
      go_ret
      exact ⟨rfl, HB3.out⟩
def MovesC (vm : Value) (xs : List (Int × Int)) (w : World) : Prop := ∀ W, Below w.heap.size w W → Calls Tryz.prog 145 #[vm] W fun e w' => e = .returned (.string (mk (movesL xs))) ∧ Below W.heap.size W w'
abbrev fTitle : ByteArray := ⟨#[116, 105, 116, 108, 101]⟩
abbrev fStart : ByteArray := ⟨#[115, 116, 97, 114, 116]⟩
abbrev fLong : ByteArray := ⟨#[108, 111, 110, 103]⟩
abbrev fRule : ByteArray := ⟨#[114, 117, 108, 101]⟩
abbrev fSkips : ByteArray := ⟨#[115, 107, 105, 112, 115]⟩
abbrev fMoves : ByteArray := ⟨#[109, 111, 118, 101, 115]⟩
def fieldL : List ByteArray := [fTitle, fStart, fLong, fRule, fSkips, fMoves]
abbrev fieldsV : Array Value := #[.string fTitle, .string fStart, .string fLong, .string fRule, .string fSkips, .string fMoves]
theorem fields_new (w : World) : Calls Tryz.prog 93 #[] w fun e w' => e = .returned (.slice (some ⟨w.heap.size, 0, none⟩) 6 6) ∧ w' = w.alloc (.cells fieldsV 9) := by
  go_enter Tryz.func93, Tryz.ntmps93
  go_wp2
  go_ret
  exact ⟨rfl, rfl⟩
noncomputable def getL (e : Ev) (f : ByteArray) : ByteArray :=
  if f.toList = [116, 105, 116, 108, 101] then e.ti else if f.toList = [115, 116, 97, 114, 116] then dayS e.st else if f.toList = [108, 111, 110, 103] then mk (Lib.itoa e.lg)
  else if f.toList = [114, 117, 108, 101] then (if bad e.ru = 0 then mk (textL e.ru) else ⟨#[]⟩) else if f.toList = [115, 107, 105, 112, 115] then mk (skipsL e.sk) else if f.toList = [109, 111, 118, 101, 115] then mk (movesL e.mv) else ⟨#[]⟩
end Evt
end Go.Proofs.YtghkalamlcfnnaaGreatDoor
end
section
namespace Go.Proofs.YtghkalamlcfnnaaGreatDoor
open Go Go.RowKit Go.Shelf Lmd
attribute [local go_sem] Oper.semAt_some
namespace Evt
open Rul Day Cand Er
theorem cat3 (a b : List UInt8) : mk a ++ ⟨#[62]⟩ ++ mk b = mk (a ++ [62] ++ b) := by
  have h1 := Day.cat a [62]
  have h2 := Day.cat (a ++ [62]) b
  show (⟨a.toArray⟩ ++ ⟨[62].toArray⟩ : ByteArray) ++ ⟨b.toArray⟩ = _
  rw [h1, h2]
theorem belowT {w a b : World} (h : Below w.heap.size w a) (k : Below a.heap.size a b) : Below w.heap.size w b := h.trans (k.mono h.size)
set_option maxRecDepth 100000 in
set_option maxHeartbeats 4000000 in
theorem moves_any (xs : List (Int × Int)) (v : Value) (er : Nat → Addr) (w : World) (hT : Tb w er) (hr : MReads w v xs) (hl : xs.length ≤ 100000) :
    Calls Tryz.prog 145 #[v] w fun e w' => e = .returned (.string (mk (movesL xs))) ∧ Below w.heap.size w w' := by
  obtain ⟨i0, hi0, hz0, hz1, hz2⟩ := info_parts string_info
  obtain ⟨a, cap, rfl⟩ := hr.shape
  have hll := movesL_len xs
  have HR := Lib.hid hr
  have HT := Lib.hid hT
  have HLL := Lib.hid hll
  obtain ⟨n, hn⟩ : ∃ n, xs.length = n := ⟨_, rfl⟩
  have HN := Lib.hid hn
  rw [hn] at hl HR ⊢
  clear hr hT hn hll
  go_enter Tryz.func145, Tryz.ntmps145
  go_wp2_with fail
  go_loopw [3, 8] (fun v3 p wr => ∃ k : Nat, k ≤ n ∧ p = .int .i64 (k : Int) ∧ (∃ a c, v3 = .slice a k c) ∧ wr.ownsRow w.heap.size 9 1 v3 ((xs.take k).map moveS).length (cellsS ((xs.take k).map moveS)) ∧ Below w.heap.size w wr) (fun _ p _ => n - (intOf p).toNat)
  case atStart => exact ⟨0, Nat.zero_le _, rfl, ⟨none, 0, rfl⟩, ⟨by simp [cellsS], .inl ⟨rfl, rfl⟩⟩, Below.refl _ _⟩
  case round =>
    obtain ⟨k, hk, rfl, ⟨a7, c7, rfl⟩, hown, hbr⟩ := hrel
    have hsr := hbr.size
    have hnb : some wr.heap.size ≠ (Value.slice a7 k c7).ownBlock := by
      intro e
      rcases hown.2 with ⟨h, _⟩ | ⟨g, cap, cur, h, _, hg, _⟩
      · rw [h] at e; simp [Value.ownBlock] at e
      · rw [h] at e
        simp [Value.ownBlock] at e
        have := (Array.getElem?_eq_some_iff.1 hg).1; omega
    have HNB := Lib.hid hnb
    clear hnb
    have HOWN := Lib.hid hown
    have HBR := Lib.hid hbr
    have hfl : ((xs.take k).map moveS).length = k := by rw [List.length_map, List.length_take, HN.out]; omega
    by_cases hlt : k < n
    · obtain ⟨-, b, o, ha9, hc⟩ := (HR.out.below hbr).at (by intro h; have := HN.out; rw [h] at this; simp at this; omega)
      subst ha9
      obtain ⟨c1, c2⟩ := hc k (by rw [HN.out]; exact hlt)
      have hsn : (xs.take (k + 1)).map moveS = (xs.take k).map moveS ++ [moveS (ml xs k)] := by
        rw [List.take_succ_eq_append_getElem (by rw [HN.out]; exact hlt), List.map_append, ml_lt (by rw [HN.out]; exact hlt)]; rfl
      obtain ⟨m, hm⟩ : ∃ m, ml xs k = m := ⟨_, rfl⟩
      obtain ⟨m1, m2⟩ := m
      rw [hm] at c1 c2 hsn
      simp only at c1 c2
      obtain ⟨wm, hwm⟩ : ∃ wm, wr.alloc (.cells #[.int .i64 m1, .int .i64 m2] 95) = wm := ⟨_, rfl⟩
      have hal : Below wr.heap.size wr wm := by rw [← hwm]; exact (Below.refl _ wr).alloc (Nat.le_refl _) _
      have hx : wm.heap[wr.heap.size]? = some (.cells #[.int .i64 m1, .int .i64 m2] 95) := by rw [← hwm]; exact heap_new wr _
      have hTm := HT.out.below (hbr.trans (hal.mono hsr))
      have hd1 := fun W (h : Below wm.heap.size wm W) => dayText_any m1 er W (hTm.below h)
      have hd2 := fun W (h : Below wm.heap.size wm W) => dayText_any m2 er W (hTm.below h)
      obtain ⟨T1, hT1⟩ : ∃ T, dayL m1 = T := ⟨_, rfl⟩
      obtain ⟨T2, hT2⟩ : ∃ T, dayL m2 = T := ⟨_, rfl⟩
      have h1l := dayL_len m1
      have h2l := dayL_len m2
      unfold dayS at hd1 hd2
      unfold moveS at hsn
      rw [hT1] at hd1 h1l
      rw [hT2] at hd2 h2l
      simp only at hsn
      rw [hT1, hT2] at hsn
      have HD1 := Lib.hid hd1
      have HD2 := Lib.hid hd2
      have HSN := Lib.hid hsn
      have hok := HOWN.out
      rw [hfl] at hok
      have HOK := Lib.hid hok
      have HFL := Lib.hid hfl
      clear hok
      have HWM := Lib.hid hwm
      have HAL := Lib.hid hal
      have HX := Lib.hid hx
      have HSR := Lib.hid hsr
      clear hown hbr hc hm hsn hfl hT1 hT2 hd1 hd2 hwm hal hx hTm
      go_upto_region 5 with fail
      rw [HWM.out]
      have hc0 : wm.cell? ⟨wr.heap.size, 0, none⟩ = some (.int .i64 m1) := cell_of HX.out rfl
      have hc1 : wm.cell? ⟨wr.heap.size, 1, none⟩ = some (.int .i64 m2) := cell_of HX.out rfl
      have HC0 := Lib.hid hc0
      have HC1 := Lib.hid hc1
      have hacc : Below wm.heap.size wm wm.drew := below_draw (Below.refl _ _) 1
      have hsm : wm.heap.size = wr.heap.size + 1 := by rw [← HWM.out]; simp
      have HSM := Lib.hid hsm
      have g1 : ¬ 9223372036854775807 < T1.length + 1 := by omega
      have g2 : ¬ 9223372036854775807 < T1.length + 1 + T2.length := by omega
      clear hsm c1 c2 hsr
      go_region_held3 (fun W => W.cell? ⟨wr.heap.size, 0, none⟩ = some (.int .i64 m1) ∧ W.cell? ⟨wr.heap.size, 1, none⟩ = some (.int .i64 m2))
        (first
          | exact ⟨cell_later hacc HC0.out, cell_later hacc HC1.out⟩
          | exact ⟨cell_later (hacc.alloc hacc.size _) HC0.out, cell_later (hacc.alloc hacc.size _) HC1.out⟩
          | (go_split_ands
             refine ⟨?_, ?_⟩
             · (rw [hgrow.cell_far _ (by have := hacc.size; have := HSM.out; simp; omega) HNB.out]; assumption)
             · (rw [hgrow.cell_far _ (by have := hacc.size; have := HSM.out; simp; omega) HNB.out]; assumption)))
        (first
          | ((with_reducible refine (HD1.out _ hacc).mono ?_); rintro e1 wq ⟨rfl, hbq⟩; replace hacc := belowT hacc hbq; clear hbq)
          | ((with_reducible refine (HD2.out _ hacc).mono ?_); rintro e1 wq ⟨rfl, hbq⟩; replace hacc := belowT hacc hbq; clear hbq)
          | (refine step_append_lies _ (by rfl) _ _ _ (by rfl) w.heap.size 9 i0 _ 1 16 Tryz.underlying33 hi0 hz0 hz1 hz2 rfl (by omega) (.slice a7 k c7) k (cellsS ((xs.take k).map moveS)) (by rfl) ((own_below HOK.out (HAL.out.trans (hacc.mono HAL.out.size))).alloc _)
              ⟨_, 0, none⟩ 1 1 [.string (mk T1 ++ ⟨#[62]⟩ ++ mk T2)] (by rfl) (by rfl) (World.news_of_block (cs := #[.string (mk T1 ++ ⟨#[62]⟩ ++ mk T2)]) (t := 9) (fr := (0, 0)) (heap_alloc_new _ _)) (by simp [Value.oneCell']) (by omega) (by simp only [maxLen]; omega) (by omega) (by have := hacc.size; have := HSM.out; have := HSR.out; simp; omega) _ rfl ?_
             intro gg cap w1 hown1 hgrow hat hlt2))
      all_goals (
        have hb1 : Below w.heap.size wr wq := (HAL.out.trans (hacc.mono HAL.out.size)).mono HSR.out
        have hbb := HBR.out.trans ((hb1.alloc (by have := hacc.size; have := HSM.out; have := HSR.out; omega) _).trans ((Below.refl w.heap.size _).grown hgrow (by have := hacc.size; have := HSM.out; have := HSR.out; simp; omega) (fun j ej => own_ge HOWN.out ej)))
        have HBB := Lib.hid hbb
        have hown2 : w1.ownsRow w.heap.size 9 1 (.slice (some ⟨gg, 0, none⟩) (k + 1) cap) ((xs.take (k + 1)).map moveS).length (cellsS ((xs.take (k + 1)).map moveS)) := by
          have hsn : (xs.take (k + 1)).map moveS = (xs.take k).map moveS ++ [mk (T1 ++ [62] ++ T2)] := HSN.out
          rw [hsn, List.length_append, HFL.out, ← cat3]
          have e : cellsS ((xs.take k).map moveS ++ [mk T1 ++ ⟨#[62]⟩ ++ mk T2]) = cellsS ((xs.take k).map moveS) ++ [.string (mk T1 ++ ⟨#[62]⟩ ++ mk T2)] := by simp [cellsS]
          rw [e]; exact hown1
        have HOB := Lib.hid hown2
        clear hown1 hown2 hbb hb1 hgrow hat hlt2 hacc
        go_wp2
        go_roundw
        case rel => exact ⟨k + 1, by omega, by simp, ⟨_, _, rfl⟩, HOB.out, HBB.out⟩
        case measure => simp [intOf]; omega)
    · obtain rfl : k = n := by omega
      have htk : xs.take xs.length = xs := List.take_length
      rw [HN.out] at htk
      rw [htk] at HOWN
      have hj := join_any (xs.map moveS) (.slice a7 k c7) w.heap.size ⟨#[44]⟩ wr HOWN.out (by rw [List.length_map, HN.out]; omega) (by
        show (movesL xs).length ≤ _
        have := HLL.out; have := HN.out; omega)
      have HJ := Lib.hid (show Calls Tryz.prog 110 #[.slice a7 k c7, .string ⟨#[44]⟩] wr fun e w' => e = .returned (.string (mk (movesL xs))) ∧ Below wr.heap.size wr w' from hj)
      clear hown hbr htk hj hfl
      go_wp2_with fail
      (with_reducible refine HJ.out.mono ?_)
      rintro e3 w3 ⟨rfl, hb3⟩
      have HB3 := Lib.hid (HBR.out.trans (hb3.mono HBR.out.size))
      clear hb3
      go_wp2
      go_ret
      exact ⟨rfl, HB3.out⟩
end Evt
end Go.Proofs.YtghkalamlcfnnaaGreatDoor
end
section
namespace Go.Proofs.YtghkalamlcfnnaaGreatDoor
open Go Go.RowKit Go.Shelf Lmd
attribute [local go_sem] Oper.semAt_some
namespace Evt
open Rul Day Cand Er
theorem cellsOf_map (xs : List Int) : cellsOf xs = xs.map (Value.int .i64) := by
  apply List.ext_getElem?
  intro i
  by_cases h : i < xs.length
  · rw [cellsOf_get h, List.getElem?_map, List.getElem?_eq_getElem h, Ints.el_lt h]; rfl
  · rw [List.getElem?_eq_none (by rw [cellsOf_len]; omega), List.getElem?_eq_none (by rw [List.length_map]; omega)]
theorem row_cells {w : World} {b : Nat} {a0 a1 a2 a3 a4 a5 a6 a7 a8 a9 a10 : Value} {t : TypeId} (h : w.heap[b]? = some (.cells #[a0, a1, a2, a3, a4, a5, a6, a7, a8, a9, a10] t (0, 0))) :
    (w.cell? ⟨b, 9, none⟩ = some a9 ∧ w.cell? ⟨b, 10, none⟩ = some a10) ∧ (w.cell? ⟨b, 6, none⟩ = some a6 ∧ w.frozen? ⟨b, 6, none⟩ = false ∧ w.frozen? ⟨b, 9, none⟩ = false ∧ w.frozen? ⟨b, 10, none⟩ = false) := by
  simp [World.cell?, World.frozen?, h]
theorem cloneInts_any (xs : List Int) (v : Value) (w : World) (hr : Ints.Reads w v xs) (hl : xs.length ≤ 1000000) :
    Calls Tryz.prog 85 #[v] w fun e w' => ∃ v', e = .returned v' ∧ Ints.Reads w' v' xs ∧ From w.heap.size v' ∧ Below w.heap.size w w' := by
  rcases hr with ⟨rfl, a, c, rfl⟩ | ⟨b, off, c, rfl, hc⟩
  · cases a with
    | none =>
      refine (Tryz.slices_Clone_int_nil 0 c w).mono ?_
      rintro e w' ⟨rfl, rfl⟩
      exact ⟨_, rfl, .inl ⟨rfl, _, _, rfl⟩, (fun g h => by cases h), Below.refl _ _⟩
    | some a =>
      refine (Tryz.slices_Clone_int_zero a c w).mono ?_
      rintro e w' ⟨v', rfl, ho, _, hb⟩
      exact ⟨v', rfl, reads_own (xs := []) ho, own_from ho, hb⟩
  · refine (Tryz.slices_Clone_int b off xs.length c xs w (Nat.le_refl _) (by omega) (fun j hj => ?_)).mono ?_
    · have := hc j hj
      simp only [Ints.el] at this
      rw [List.getD_eq_getElem?_getD]; exact this
    · rintro e w' ⟨v', rfl, ho, _, hb⟩
      rw [List.take_length, ← cellsOf_map] at ho
      exact ⟨v', rfl, reads_own (xs := xs) ho, own_from ho, hb⟩
def ClonedM (xs : List (Int × Int)) (w : World) (e : Ending) (w' : World) : Prop := ∃ v', e = .returned v' ∧ MReads w' v' xs ∧ From w.heap.size v' ∧ Below w.heap.size w w'
set_option maxRecDepth 100000 in
set_option maxHeartbeats 1000000 in
theorem cloneMoves_any (xs : List (Int × Int)) (v : Value) (w : World) (hr : MReads w v xs) (hl : xs.length ≤ 1000000) :
    Calls Tryz.prog 86 #[v] w (ClonedM xs w) := by
  obtain ⟨i0, hi0, hz0, hz1, hz2⟩ := info_parts move_info
  obtain ⟨a9, c9, rfl⟩ := hr.shape
  cases a9 with
  | none =>
    have hy : xs = [] := by
      rcases hr with ⟨h, _⟩ | ⟨b, off, cap', h, _⟩
      · exact h
      · cases h
    subst hy
    clear hr
    have hu : ∀ (w : World) (a : Option Addr) (n c n' c' : Nat), (binOp .eql 38 (.slice a n c) (.slice none n' c')).run Tryz.prog w = .ok (.bool a.isNone) w := fun w a n c n' c' => Lib.run_eql_slice_nil w _ _ a n c n' c' Tryz.underlying38
    go_enter Tryz.func86, Tryz.ntmps86
    go_wp2
    go_ret
    exact ⟨_, rfl, .inl ⟨rfl, _, _, rfl⟩, (fun g h => by cases h), Below.refl _ _⟩
  | some ad =>
    have hB : Below w.heap.size w (w.alloc (.cells #[] 95)) := (Below.refl _ w).alloc (Nat.le_refl _) _
    have HR := Lib.hid (hr.below hB)
    have HO := Lib.hid (show (w.alloc (.cells #[] 95)).ownsRow w.heap.size 95 2 (.slice (some ⟨w.heap.size, 0, none⟩) 0 0) 0 [] from ⟨rfl, .inr ⟨w.heap.size, 0, #[], rfl, Nat.le_refl _, heap_new w _, Nat.le_refl _, by simp [maxLen], rfl, rfl⟩⟩)
    have HB := Lib.hid hB
    clear hr hB
    have hu : ∀ (w : World) (a : Option Addr) (n c n' c' : Nat), (binOp .eql 38 (.slice a n c) (.slice none n' c')).run Tryz.prog w = .ok (.bool a.isNone) w := fun w a n c n' c' => Lib.run_eql_slice_nil w _ _ a n c n' c' Tryz.underlying38
    go_enter Tryz.func86, Tryz.ntmps86
    go_wp2_with (at_builtin
                 refine wpList_append_own _ rfl (.tmp 5) (.tmp 6) 38 rfl w.heap.size 95 i0 _ 2 16 Tryz.underlying38 hi0 hz0 hz1 hz2 rfl (by omega) (.slice (some ⟨w.heap.size, 0, none⟩) 0 0) 0 [] rfl HO.out ad xs.length c9 (cellsM xs) rfl (by rw [cellsM_len])
                   (fun j u hu => by
                     obtain ⟨k, hk, hu⟩ := cellsM_get hu
                     obtain ⟨_, b, o', ha, hc⟩ := HR.out.at (by rintro rfl; exact absurd hk (Nat.not_lt_zero _))
                     cases ha
                     rw [add_plain]
                     rcases hu with ⟨rfl, rfl⟩ | ⟨rfl, rfl⟩
                     · exact (hc k hk).1
                     · exact (hc k hk).2) cellsM_one (by simp only [maxLen]; omega) (by omega) (by simp) ?_
                 intro v' w' h1 h2 h3
                 rw [Nat.zero_add, List.nil_append] at h1
                 have H1 := Lib.hid h1
                 have H2 := Lib.hid (HB.out.trans ((Below.refl _ (w.alloc (.cells #[] 95))).grown h2 (by simp) (fun j ej => own_ge HO.out ej)))
                 clear h1 h2 h3)
    go_ret
    exact ⟨v', rfl, mreads_own H1.out rfl, own_from H1.out, H2.out⟩
end Evt
end Go.Proofs.YtghkalamlcfnnaaGreatDoor
end
