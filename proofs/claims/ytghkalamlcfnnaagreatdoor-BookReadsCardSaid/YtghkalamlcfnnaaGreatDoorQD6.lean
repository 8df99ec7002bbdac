/- CodeLe, TxRd: texts joined. -/
import Derived.Test.YtghkalamlcfnnaaGreatDoorQC1
section
/- Errors' numbers are small. -/
namespace Go.Proofs.YtghkalamlcfnnaaGreatDoor
open Go Go.RowKit Lmd
namespace Evt
open Rul Day Cand Er Tp

theorem bad_le8 (r : Ru) : bad r ≤ 8 := by unfold bad; split <;> (try split) <;> (try split) <;> (try split) <;> omega
theorem badE_le8 (e : Ev) : badE e ≤ 8 := by
  have h1 : badL e ≤ 8 := by
    unfold badL
    repeat' split
    all_goals omega
  have h2 := bad_le8 e.ru
  unfold badE
  repeat' split
  all_goals omega
theorem dayC_le2 (l : List UInt8) : dayC l ≤ 2 := by unfold dayC; split <;> (try split) <;> omega
theorem tailC_le2 (l : List ByteArray) : tailC l ≤ 2 := by
  unfold tailC
  repeat' split
  all_goals first
    | exact dayC_le2 _
    | omega
theorem readS_le8 (s : ByteArray) : (readS s).1 ≤ 8 := by
  unfold readS
  split
  · exact Nat.zero_le _
  · generalize pieces 32 s = L
    rcases L with _ | ⟨f, _ | ⟨n, t⟩⟩
    · simp [readCR]
    · simp [readCR]
    · simp only [readCR]
      split
      · split
        · exact Nat.le_trans (tailC_le2 _) (by decide)
        · split
          · show 1 ≤ 8; omega
          · split
            · exact bad_le8 _
            · exact Nat.zero_le _
      · show 1 ≤ 8; omega
theorem skC_le : ∀ L : List ByteArray, skC L ≤ 2
  | [] => Nat.zero_le _
  | x :: t => by
    unfold skC
    split
    · exact dayC_le2 _
    · exact skC_le t
theorem mvC1_le (x : ByteArray) : mvC1 x ≤ 2 := by
  unfold mvC1
  repeat' split
  all_goals first
    | exact dayC_le2 _
    | omega
theorem mvC_le : ∀ L : List ByteArray, mvC L ≤ 2
  | [] => Nat.zero_le _
  | x :: t => by
    unfold mvC
    split
    · exact mvC1_le _
    · exact mvC_le t
theorem putC_le (f s : ByteArray) : putC f s ≤ 8 := by
  have h1 := dayC_le2 s.data.toList
  have h2 := readS_le8 s
  have h3 := skC_le (listP s)
  have h4 := mvC_le (listP s)
  unfold putC
  repeat' split
  all_goals omega
theorem badK_le (L : List ByteArray) : ∀ n k, badK L k n ≤ 8
  | 0, _ => badE_le8 _
  | n + 1, k => by
    unfold badK
    split
    · exact putC_le _ _
    · exact badK_le L n _
theorem readC_le (s : ByteArray) : readC s ≤ 8 := by
  unfold readC readLC
  split
  · exact badK_le _ _ _
  · omega
end Evt
namespace Bk
open Evt Rul Day Cand Er Tp
theorem putK_le8 (e : Ev) (L : List Ev) : putK e L ≤ 8 := by
  have := badE_le8 e
  unfold putK; split
  · omega
  · split <;> omega
theorem lineK_le (s last : ByteArray) (L : List Ev) : lineK s last L ≤ 8 := by
  unfold lineK
  split
  · exact readC_le s
  · split
    · exact putK_le8 _ _
    · omega
theorem rdL_le : ∀ (P : List ByteArray) (i : Nat) (L : List Ev), (rdL i L P).1 ≤ 8
  | [], _, _ => Nat.zero_le _
  | [x], i, L => by
    unfold rdL
    split
    · exact Nat.zero_le _
    · show 1 ≤ 8; omega
  | x :: y :: t, i, L => by
    unfold rdL
    split
    · exact lineK_le _ _ _
    · exact rdL_le (y :: t) _ _
theorem readB_le (s : ByteArray) : (readB s).1 ≤ 8 := rdL_le _ _ _
end Bk
end Go.Proofs.YtghkalamlcfnnaaGreatDoor
end

section
/- What is read is written as it was: days, numbers, rules, lists, events, calendars: in plain Lean. -/
namespace Lmd.Cal
open Go

theorem dg_of {c : UInt8} {k : Int} (h : isD c = true) (hk : k = (c.toNat : Int) - 48) : dg k = c := by
  unfold isD at h
  have h' := of_decide_eq_true h
  unfold dg
  rw [show 48 + k.toNat = c.toNat by omega]
  exact UInt8.ofNat_toNat
theorem shape_text {l : List UInt8} (h : shapeB l = true) : text (yOf l) (mOf l) (dOf l) = l := by
  unfold shapeB at h
  simp only [Bool.and_eq_true, decide_eq_true_eq] at h
  obtain ⟨⟨⟨⟨⟨hlen, h4⟩, h7⟩, hy⟩, hm⟩, hd⟩ := h
  rcases l with _ | ⟨a, _ | ⟨b, _ | ⟨c, _ | ⟨d, _ | ⟨e, _ | ⟨f, _ | ⟨g, _ | ⟨p, _ | ⟨i, _ | ⟨j, _ | ⟨k, l⟩⟩⟩⟩⟩⟩⟩⟩⟩⟩⟩
  case cons.cons.cons.cons.cons.cons.cons.cons.cons.cons.nil =>
    have e4 : e = 45 := by simpa using h4
    have e7 : p = 45 := by simpa using h7
    subst e4 e7
    have hy' : isD a = true ∧ isD b = true ∧ isD c = true ∧ isD d = true := by simpa [digs] using hy
    have hm' : isD f = true ∧ isD g = true := by simpa [digs] using hm
    have hd' : isD i = true ∧ isD j = true := by simpa [digs] using hd
    obtain ⟨ha, hb, hc, hdd⟩ := hy'
    obtain ⟨hf, hg⟩ := hm'
    obtain ⟨hi, hj⟩ := hd'
    have r : ∀ {x : UInt8}, isD x = true → 48 ≤ (x.toNat : Int) ∧ (x.toNat : Int) ≤ 57 := fun {x} h => by
      have := of_decide_eq_true h; omega
    have ra := r ha
    have rb := r hb
    have rc := r hc
    have rd := r hdd
    have rf := r hf
    have rg := r hg
    have ri := r hi
    have rj := r hj
    have ey : yOf [a, b, c, d, 45, f, g, 45, i, j] = 1000 * ((a.toNat : Int) - 48) + 100 * ((b.toNat : Int) - 48) + 10 * ((c.toNat : Int) - 48) + ((d.toNat : Int) - 48) := by
      simp only [yOf, numV, List.take, List.foldl]; omega
    have em : mOf [a, b, c, d, 45, f, g, 45, i, j] = 10 * ((f.toNat : Int) - 48) + ((g.toNat : Int) - 48) := by
      simp only [mOf, numV, List.take, List.drop, List.foldl]; omega
    have ed : dOf [a, b, c, d, 45, f, g, 45, i, j] = 10 * ((i.toNat : Int) - 48) + ((j.toNat : Int) - 48) := by
      simp only [dOf, numV, List.drop, List.foldl]; omega
    rw [ey, em, ed]
    unfold text fourT twoT
    rw [dg_of ha (by omega), dg_of hb (by omega), dg_of hc (by omega), dg_of hdd (by omega), dg_of hf (by omega), dg_of hg (by omega), dg_of hi (by omega), dg_of hj (by omega)]
    rfl
  all_goals (simp only [List.length_cons, List.length_nil] at hlen; omega)
end Lmd.Cal
namespace Go.Proofs.YtghkalamlcfnnaaGreatDoor
open Go Go.RowKit Lmd
namespace Bk
open Evt Rul Day Cand Er Tp

/-- the pieces of a text, joined -/
theorem join_pieces (c : UInt8) : ∀ (n : Nat) (l : List UInt8), l.length ≤ n → Lib.join ((pieces c (mk l)).map (·.data.toList)) [c] = l := by
  intro n
  induction n with
  | zero =>
    intro l h
    have : l = [] := List.length_eq_zero_iff.1 (by omega)
    subst this
    rw [pieces_last (by simp)]; rfl
  | succ n ih =>
    intro l h
    by_cases hc : c ∈ l
    · obtain ⟨a, r, rfl, hn⟩ := split_at hc
      have hr := ih r (by rw [List.length_append, List.length_cons] at h; omega)
      rw [pieces_more hn]
      obtain ⟨f, t, e⟩ := pieces_some c (mk r)
      rw [e] at hr ⊢
      simp only [List.map_cons] at hr ⊢
      unfold Lib.join at hr ⊢
      rw [List.intercalate_cons_cons, hr, List.append_assoc]
      rfl
    · rw [pieces_last hc]
      simp [Lib.join]
theorem join_of (c : UInt8) (s : ByteArray) : Lib.join ((pieces c s).map (·.data.toList)) [c] = s.data.toList := by
  have := join_pieces c _ s.data.toList (Nat.le_refl _)
  rwa [show mk s.data.toList = s from (str_mk s).symm] at this

/-! days, numbers -/
theorem day_read {l : List UInt8} (h : dayC l = 0) : dayL (dayX l) = l ∧ dayT (dayX l) = l ∧ 0 ≤ dayX l := by
  have h0 := h
  unfold dayC at h
  by_cases hs : Cal.shapeB l = true
  · rw [if_pos hs] at h
    by_cases ho : Cal.okB (Cal.yOf l) (Cal.mOf l) (Cal.dOf l) = true
    · have hok : Cal.Ok (Cal.yOf l) (Cal.mOf l) (Cal.dOf l) := by unfold Cal.okB at ho; have ho2 := of_decide_eq_true ho; exact ho2
      have hat : Cal.At (dayX l) (Cal.yOf l) (Cal.mOf l) (Cal.dOf l) := ⟨hok, by unfold dayX; rw [if_pos h0]⟩
      have hb := Cal.at_bd hat
      have ht : dayT (dayX l) = l := (dayT_at hat).trans (Cal.shape_text hs)
      refine ⟨?_, ht, hb.1⟩
      unfold dayL
      rw [if_pos hb, ht]
    · rw [if_neg ho] at h; cases h
  · rw [if_neg hs] at h; cases h
theorem dayS_read {x : ByteArray} (h : dayC x.data.toList = 0) : (dayS (dayX x.data.toList)).data.toList = x.data.toList := by
  unfold dayS
  rw [(day_read h).1]
theorem num_read {l : List UInt8} (h : numOk l = true) : Lib.itoa (numIs l) = l := by
  unfold numOk at h
  unfold numIs
  cases hx : Lib.atoiAll l with
  | ok v => rw [hx] at h; simp only [Bool.and_eq_true, decide_eq_true_eq] at h; exact h.2
  | _ => rw [hx] at h; cases h
theorem lg_read {l : List UInt8} (h : lgOk l = true) : Lib.itoa (numIs l) = l := by
  unfold lgOk at h
  unfold numIs
  cases hx : Lib.atoiAll l with
  | ok v => rw [hx] at h; simp only [Bool.and_eq_true, decide_eq_true_eq] at h; exact h.2
  | _ => rw [hx] at h; cases h

/-! rules -/
theorem name_idx {x : ByteArray} (h : 0 ≤ idxN x) : nameOf (idxN x) = x := by
  have hm : x ∈ nameL := (Lib.idxOfS_nonneg_iff nameL x).1 h
  simp only [nameL, List.mem_cons, List.not_mem_nil, or_false] at hm
  rcases hm with rfl | rfl | rfl | rfl | rfl | rfl | rfl <;> decide
theorem nms_read {d : ByteArray} (h : daysOk d = true) : nms (daysV d) = d.data.toList ∧ daysV d ≠ [] := by
  unfold daysOk at h
  rw [List.all_eq_true] at h
  refine ⟨?_, ?_⟩
  · have e : ((daysV d).map nameOf).map (·.data.toList) = (pieces 44 d).map (·.data.toList) := by
      unfold daysV
      rw [List.map_map, List.map_map]
      refine List.map_congr_left fun x hx => ?_
      show (nameOf (idxN x)).data.toList = _
      rw [name_idx (of_decide_eq_true (h x hx))]
    unfold nms
    rw [e]; exact join_of 44 d
  · obtain ⟨f, t, e⟩ := pieces_some 44 d
    unfold daysV
    rw [e]; simp
theorem tail_words : ∀ {L : List ByteArray}, tailC L = 0 → tailB L = true →
    (if 0 < tailCt L 0 then [countW, Lib.itoa (tailCt L 0)] else []) ++ (if tailUn L (-1) ≠ -1 then [untilW, dayT (tailUn L (-1))] else []) = L.map (·.data.toList)
  | [], _, _ => by simp [tailCt, tailUn]
  | [k], _, h1 => by cases h1
  | [k, x], h0, h1 => by
    by_cases hk : k.toList = countW
    · have hk2 : k.data.toList = countW := by rw [← ByteArray.toList_eq]; exact hk
      simp only [tailB, if_pos hk, Bool.and_eq_true, decide_eq_true_eq] at h1
      simp only [tailCt, tailUn, if_pos hk]
      rw [if_pos h1.2, num_read h1.1]
      simp [hk2]
    · by_cases hu : k.toList = untilW
      · have hu2 : k.data.toList = untilW := by rw [← ByteArray.toList_eq]; exact hu
        simp only [tailC, if_neg hk, if_pos hu] at h0
        obtain ⟨_, e2, e3⟩ := day_read h0
        simp only [tailCt, tailUn, if_neg hk, if_pos hu]
        rw [if_neg (by omega), if_pos (by omega), e2]
        simp [hu2]
      · simp only [tailB, if_neg hk] at h1
        exact absurd (of_decide_eq_true h1) hu
  | _ :: _ :: _ :: _, _, h1 => by cases h1
theorem mid_words (t : List ByteArray) : (if (midOf t).1 = [] then [] else [nms (midOf t).1]) ++ (midOf t).2.map (·.data.toList) = t.map (·.data.toList) := by
  cases t with
  | nil => rfl
  | cons d t =>
    by_cases hd : daysOk d = true
    · obtain ⟨h1, h2⟩ := nms_read hd
      simp only [midOf, if_pos hd]
      rw [if_neg h2, h1]; rfl
    · simp only [midOf, if_neg hd]
      rfl
theorem rule_read {s : ByteArray} (h : (readS s).1 = 0) : textL (readS s).2 = s.data.toList := by
  unfold readS at h ⊢
  by_cases ho : s.toList = onceW
  · rw [if_pos ho]
    unfold textL
    rw [if_pos ho]
  · rw [if_neg ho] at h ⊢
    have hj := join_of 32 s
    generalize pieces 32 s = L at *
    match L, h, hj with
    | [], h, _ => cases h
    | [_], h, _ => cases h
    | f :: n :: t, h, hj =>
      simp only [readCR] at h ⊢
      by_cases hh : headB (f :: n :: t) = true ∧ numOk n.data.toList = true
      case neg => rw [if_neg hh] at h; cases h
      rw [if_pos hh] at h ⊢
      by_cases h1 : tailC (midOf t).2 ≠ 0
      · rw [if_pos h1] at h; exact absurd h h1
      rw [if_neg h1] at h ⊢
      by_cases h2 : tailB (midOf t).2 = false
      · rw [if_pos h2] at h; cases h
      rw [if_neg h2] at h ⊢
      by_cases h3 : bad (ruleOf f n t) ≠ 0
      · rw [if_pos h3] at h; exact absurd h h3
      rw [if_neg h3]
      have hf : ¬ (ruleOf f n t).fq.toList = onceW := by
        intro e
        have e' : f.toList = onceW := e
        have := hh.1
        simp [headB, e'] at this
      show textL (ruleOf f n t) = _
      rw [text_words _ hf, ← hj]
      congr 1
      have e1 : dW (ruleOf f n t) = (if (midOf t).1 = [] then [] else [nms (midOf t).1]) := rfl
      have e2 : cW (ruleOf f n t) ++ uW (ruleOf f n t) = (midOf t).2.map (·.data.toList) := tail_words (by simpa using h1) (by simpa using h2)
      have e3 : Lib.itoa (ruleOf f n t).ev = n.data.toList := num_read hh.2
      have e4 : dW (ruleOf f n t) ++ cW (ruleOf f n t) ++ uW (ruleOf f n t) = t.map (·.data.toList) := by
        rw [List.append_assoc, e1, e2]; exact mid_words t
      rw [e3, e4]; rfl

/-! lists -/
theorem skC_all : ∀ {L : List ByteArray}, skC L = 0 → ∀ x ∈ L, dayC x.data.toList = 0
  | [], _, x, hx => by cases hx
  | y :: t, h, x, hx => by
    unfold skC at h
    by_cases e : dayC y.data.toList ≠ 0
    · rw [if_pos e] at h; exact absurd h e
    · rw [if_neg e] at h
      rcases List.mem_cons.1 hx with rfl | hx
      · simpa using e
      · exact skC_all h x hx
theorem mvC_all : ∀ {L : List ByteArray}, mvC L = 0 → ∀ x ∈ L, mvC1 x = 0
  | [], _, x, hx => by cases hx
  | y :: t, h, x, hx => by
    unfold mvC at h
    by_cases e : mvC1 y ≠ 0
    · rw [if_pos e] at h; exact absurd h e
    · rw [if_neg e] at h
      rcases List.mem_cons.1 hx with rfl | hx
      · simpa using e
      · exact mvC_all h x hx
theorem list_join {s : ByteArray} {f : ByteArray → List UInt8} (h : ∀ x ∈ listP s, f x = x.data.toList) : Lib.join ((listP s).map f) [44] = s.data.toList := by
  rw [List.map_congr_left h]
  unfold listP
  split
  · rename_i e
    rw [← ByteArray.toList_eq, e]; rfl
  · exact join_of 44 s
theorem skips_read {s : ByteArray} (h : skC (listP s) = 0) : skipsL (skV (listP s)) = s.data.toList := by
  unfold skipsL skV
  rw [List.map_map, List.map_map]
  exact list_join fun x hx => dayS_read (skC_all h x hx)
theorem move_read {x : ByteArray} (h : mvC1 x = 0) : (moveS (mvV1 x)).data.toList = x.data.toList := by
  unfold mvC1 at h
  by_cases h1 : (Lib.cut x.data.toList [62]).2.2 = false
  · rw [if_pos h1] at h; cases h
  rw [if_neg h1] at h
  by_cases h2 : dayC (mvA x) ≠ 0
  · rw [if_pos h2] at h; exact absurd h h2
  rw [if_neg h2] at h
  have h2' : dayC (mvA x) = 0 := by simpa using h2
  show dayL (dayX (mvA x)) ++ [62] ++ dayL (dayX (mvB x)) = _
  rw [(day_read h2').1, (day_read h).1]
  unfold mvA mvB
  by_cases hc : (62 : UInt8) ∈ x.data.toList
  · obtain ⟨a, r, e, hn⟩ := split_at hc
    rw [e, cut_hit hn]
    simp
  · rw [cut_miss hc] at h1; exact absurd rfl h1
theorem moves_read {s : ByteArray} (h : mvC (listP s) = 0) : movesL (mvV (listP s)) = s.data.toList := by
  unfold movesL mvV
  rw [List.map_map, List.map_map]
  exact list_join fun x hx => move_read (mvC_all h x hx)

/-! events -/
theorem badK_zero {L : List ByteArray} : ∀ {n k : Nat}, badK L k n = 0 → (∀ j, k ≤ j → j < k + n → putC (fAt j) (lAt L (j + 1)) = 0) ∧ badE (evK L 6) = 0
  | 0, k, h => ⟨fun j h1 h2 => by omega, h⟩
  | n + 1, k, h => by
    unfold badK at h
    by_cases e : putC (fAt k) (lAt L (k + 1)) ≠ 0
    · rw [if_pos e] at h; exact absurd h e
    · rw [if_neg e] at h
      obtain ⟨h1, h2⟩ := badK_zero h
      refine ⟨fun j h3 h4 => ?_, h2⟩
      by_cases ej : j = k
      · subst ej; simpa using e
      · exact h1 j (by omega) (by omega)
/-- AN EVENT THAT WAS READ IS WRITTEN AS IT WAS -/
theorem event_read {s : ByteArray} (h : readC s = 0) : textE (readE s) = s.data.toList := by
  have hj := join_of 124 s
  unfold readC at h
  unfold readE readLE
  rw [if_pos h]
  generalize pieces 124 s = L at *
  unfold readLC at h
  by_cases hl : L.length = 7
  case neg => rw [if_neg hl] at h; cases h
  rw [if_pos hl] at h
  obtain ⟨hp, hb⟩ := badK_zero h
  have hru := (badE_zero hb).2.2.2.2.1
  have hev : evK L 6 = { id := lAt L 0, ti := lAt L 1, st := dayX (lAt L 2).data.toList, lg := numIs (lAt L 3).data.toList, ru := (readS (lAt L 4)).2, sk := skV (listP (lAt L 5)), mv := mvV (listP (lAt L 6)) } := by
    show putE (putE (putE (putE (putE (putE (evK L 0) fTitle (lAt L 1)) fStart (lAt L 2)) fLong (lAt L 3)) fRule (lAt L 4)) fSkips (lAt L 5)) fMoves (lAt L 6) = _
    rw [putEM, putEK, putER, putEL, putES, putET]
    rfl
  have p2 : dayC (lAt L 2).data.toList = 0 := by rw [← putCS]; exact hp 1 (by omega) (by omega)
  have p3 : lgOk (lAt L 3).data.toList = true := by
    have h3 : putC fLong (lAt L 3) = 0 := hp 2 (by omega) (by omega)
    rw [putCL] at h3
    by_cases e : lgOk (lAt L 3).data.toList = true
    · exact e
    · rw [if_neg e] at h3; cases h3
  have p4 : (readS (lAt L 4)).1 = 0 := by rw [← putCR]; exact hp 3 (by omega) (by omega)
  have p5 : skC (listP (lAt L 5)) = 0 := by rw [← putCK]; exact hp 4 (by omega) (by omega)
  have p6 : mvC (listP (lAt L 6)) = 0 := by rw [← putCM]; exact hp 5 (by omega) (by omega)
  rw [hev] at hru ⊢
  rw [← hj]
  unfold textE
  congr 1
  have eL : L = [lAt L 0, lAt L 1, lAt L 2, lAt L 3, lAt L 4, lAt L 5, lAt L 6] := by
    rcases L with _ | ⟨a, _ | ⟨b, _ | ⟨c, _ | ⟨d, _ | ⟨e, _ | ⟨f, _ | ⟨g, _ | ⟨k, l⟩⟩⟩⟩⟩⟩⟩⟩
    case cons.cons.cons.cons.cons.cons.cons.nil => rfl
    all_goals (simp only [List.length_cons, List.length_nil] at hl; omega)
  generalize lAt L 0 = x0 at *
  generalize lAt L 1 = x1 at *
  generalize lAt L 2 = x2 at *
  generalize lAt L 3 = x3 at *
  generalize lAt L 4 = x4 at *
  generalize lAt L 5 = x5 at *
  generalize lAt L 6 = x6 at *
  rw [eL]
  generalize he : (Ev.mk x0 x1 (dayX x2.data.toList) (numIs x3.data.toList) (readS x4).2 (skV (listP x5)) (mvV (listP x6))) = e at *
  show [e.id.data.toList, (getL e fTitle).data.toList, (getL e fStart).data.toList, (getL e fLong).data.toList, (getL e fRule).data.toList, (getL e fSkips).data.toList, (getL e fMoves).data.toList] = [x0.data.toList, x1.data.toList, x2.data.toList, x3.data.toList, x4.data.toList, x5.data.toList, x6.data.toList]
  rw [getT, getS, getL', getR, getK, getM, if_pos hru]
  subst he
  show [x0.data.toList, x1.data.toList, (dayS (dayX x2.data.toList)).data.toList, Lib.itoa (numIs x3.data.toList), textL (readS x4).2, skipsL (skV (listP x5)), movesL (mvV (listP x6))] = _
  rw [dayS_read p2, lg_read p3, rule_read p4, skips_read p5, moves_read p6]

/-! calendars -/
theorem line_zero {x last : ByteArray} {L : List Ev} (h : lineK x last L = 0) : readC x = 0 ∧ last.data.toList < key (readE x) := by
  unfold lineK at h
  by_cases e : readC x ≠ 0
  · rw [if_pos e] at h; exact absurd h e
  rw [if_neg e] at h
  by_cases e2 : last.data.toList < key (readE x)
  · exact ⟨by simpa using e, e2⟩
  · rw [if_neg e2] at h; cases h
theorem rd_read : ∀ (P : List ByteArray) (i : Nat) (L : List Ev), P ≠ [] → Asc L → (rdL i L P).1 = 0 → textB (rdL i L P).2.2 = textB L ++ Lib.join (P.map (·.data.toList)) [10]
  | [], _, _, h, _, _ => absurd rfl h
  | [x], i, L, _, _, h => by
    unfold rdL at h ⊢
    by_cases e : x.data.toList = []
    · rw [if_pos e]
      show textB L = textB L ++ Lib.join [x.data.toList] [10]
      rw [e]; simp [Lib.join]
    · rw [if_neg e] at h; cases h
  | x :: y :: t, i, L, _, ha, h => by
    unfold rdL at h ⊢
    by_cases e : lineK x (lastOf L) L ≠ 0
    · rw [if_pos e] at h; exact absurd h e
    rw [if_neg e] at h ⊢
    obtain ⟨h1, h2⟩ := line_zero (show lineK x (lastOf L) L = 0 by simpa using e)
    have ha' : Asc (withE (readE x) L) := asc_withE ha
    rw [rd_read (y :: t) (i + 1) _ (by simp) ha' h, (with_last ha h2).1, textB_snoc, event_read h1]
    have e2 : Lib.join ((x :: y :: t).map (·.data.toList)) [10] = x.data.toList ++ [10] ++ Lib.join ((y :: t).map (·.data.toList)) [10] := by
      simp only [List.map_cons]
      unfold Lib.join
      rw [List.intercalate_cons_cons, List.append_assoc]
    rw [e2]
    simp only [List.append_assoc]
/-- A CALENDAR THAT WAS READ IS WRITTEN AS IT WAS -/
theorem book_read {s : ByteArray} (h : (readB s).1 = 0) : textB (readB s).2.2 = s.data.toList := by
  obtain ⟨f, t, e⟩ := pieces_some 10 s
  have := rd_read (pieces 10 s) 0 [] (by rw [e]; simp) List.Pairwise.nil h
  rw [join_of] at this
  exact this
end Bk
end Go.Proofs.YtghkalamlcfnnaaGreatDoor
end
