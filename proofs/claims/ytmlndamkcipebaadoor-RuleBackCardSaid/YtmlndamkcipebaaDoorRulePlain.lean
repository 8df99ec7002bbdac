/- Plain: a good rule's text is read as that rule. -/
import Derived.Test.YtmlndamkcipebaaDoorRuleRead
import Derived.Test.YtmlndamkcipebaaDoorNumPlain
namespace Go.Proofs.YtmlndamkcipebaaDoor
open Go Go.RowKit Go.Shelf Lmd
namespace Rul
open Er Day Cand

/-! weekdays -/
theorem idx_name (k : Int) (h0 : 0 ≤ k) (h6 : k ≤ 6) : idxN (nameOf k) = k ∧ (44 : UInt8) ∉ (nameOf k).data.toList ∧ (32 : UInt8) ∉ (nameOf k).data.toList := by
  have hk : k = 0 ∨ k = 1 ∨ k = 2 ∨ k = 3 ∨ k = 4 ∨ k = 5 ∨ k = 6 := by omega
  rcases hk with rfl | rfl | rfl | rfl | rfl | rfl | rfl <;> decide
theorem days_ok {ds : List Int} (h : daysB ds = true) : ∀ k ∈ ds, 0 ≤ k ∧ k ≤ 6 := by
  intro k hk
  have := List.all_eq_true.1 h k hk
  simpa [inB] using this
noncomputable def nms (ds : List Int) : List UInt8 := Lib.join ((ds.map nameOf).map (·.data.toList)) [44]
theorem map_id_of {ds : List Int} (h : ∀ k ∈ ds, 0 ≤ k ∧ k ≤ 6) : (ds.map nameOf).map idxN = ds := by
  induction ds with
  | nil => rfl
  | cons d ds ih =>
    simp only [List.map_cons]
    rw [(idx_name d (h d (by simp)).1 (h d (by simp)).2).1, ih (fun k hk => h k (by simp [hk]))]
theorem pieces_nms {ds : List Int} (h : ∀ k ∈ ds, 0 ≤ k ∧ k ≤ 6) (hn : ds ≠ []) : pieces 44 (mk (nms ds)) = ds.map nameOf := by
  obtain ⟨d, ds, rfl⟩ := List.exists_cons_of_ne_nil hn
  unfold nms
  simp only [List.map_cons]
  rw [pieces_join]
  · simp only [List.map_cons, List.map_map]
    have : ∀ k : Int, mk (nameOf k).data.toList = nameOf k := fun k => (str_mk _).symm
    rw [this]
    congr 1
  · intro y hy
    have hy2 : y ∈ (d :: ds).map fun k => (nameOf k).data.toList := by simpa [List.map_map] using hy
    rw [List.mem_map] at hy2
    obtain ⟨k, hk, rfl⟩ := hy2
    exact (idx_name k (h k hk).1 (h k hk).2).2.1
theorem days_back {ds : List Int} (h : ∀ k ∈ ds, 0 ≤ k ∧ k ≤ 6) (hn : ds ≠ []) : daysOk (mk (nms ds)) = true ∧ daysV (mk (nms ds)) = ds := by
  unfold daysOk daysV
  rw [pieces_nms h hn]
  refine ⟨?_, map_id_of h⟩
  rw [List.all_map, List.all_eq_true]
  intro k hk
  show decide (0 ≤ idxN (nameOf k)) = true
  rw [(idx_name k (h k hk).1 (h k hk).2).1]
  exact decide_eq_true (h k hk).1
theorem nms_free {ds : List Int} (h : ∀ k ∈ ds, 0 ≤ k ∧ k ≤ 6) : (32 : UInt8) ∉ nms ds := by
  unfold nms
  induction ds with
  | nil => simp [Lib.join]
  | cons d ds ih =>
    have h1 := (idx_name d (h d (by simp)).1 (h d (by simp)).2).2.2
    have h2 := ih (fun k hk => h k (by simp [hk]))
    cases ds with
    | nil => simpa [Lib.join] using h1
    | cons e ds =>
      simp only [List.map_cons, Lib.join] at h2 ⊢
      rw [List.intercalate_cons_cons]
      simp only [List.mem_append, not_or]
      exact ⟨⟨h1, by decide⟩, h2⟩
theorem days_word {x : List UInt8} (h : (44 : UInt8) ∉ x) (hi : idxN (mk x) < 0) : daysOk (mk x) = false := by
  unfold daysOk
  rw [pieces_last h]
  simp; omega

/-! a day's text -/
theorem day_back {n y m d : Int} (h : Cal.At n y m d) : dayC (Cal.text y m d) = 0 ∧ dayX (Cal.text y m d) = n ∧ (32 : UInt8) ∉ Cal.text y m d := by
  obtain ⟨ho, hn⟩ := h
  have hr := Cal.ok_range ho
  obtain ⟨hs, h1, h2, h3⟩ := Cal.text_shape y m d (by omega) (by omega) (by omega) (by omega) (by omega) (by omega)
  have hc : dayC (Cal.text y m d) = 0 := by
    unfold dayC
    rw [if_pos hs, h1, h2, h3, if_pos (Cal.okB_true ho)]
  refine ⟨hc, ?_, ?_⟩
  · unfold dayX
    rw [if_pos hc, h1, h2, h3]; exact hn
  · have hdg : ∀ k : Int, 0 ≤ k → k ≤ 9 → Cal.dg k ≠ 32 := fun k a b e => by
      have := Cal.dg_nat k a b
      rw [e] at this
      have h32 : ((32 : UInt8).toNat : Int) = 32 := rfl
      omega
    unfold Cal.text Cal.fourT Cal.twoT
    simp only [List.mem_cons, List.not_mem_nil, or_false, List.cons_append, List.nil_append, not_or]
    refine ⟨?_, ?_, ?_, ?_, by decide, ?_, ?_, by decide, ?_, ?_⟩ <;> exact (hdg _ (by omega) (by omega)).symm

/-! the words of a rule's text -/
noncomputable def dW (r : Ru) : List (List UInt8) := if r.ds = [] then [] else [nms r.ds]
noncomputable def cW (r : Ru) : List (List UInt8) := if 0 < r.ct then [countW, Lib.itoa r.ct] else []
noncomputable def uW (r : Ru) : List (List UInt8) := if r.un ≠ -1 then [untilW, dayT r.un] else []
theorem text_words (r : Ru) (h : ¬ r.fq.toList = onceW) : textL r = Lib.join (r.fq.data.toList :: Lib.itoa r.ev :: (dW r ++ cW r ++ uW r)) [32] := by
  unfold textL
  rw [if_neg h]
  unfold headL daysL countL untilL dW cW uW Lib.join
  by_cases h1 : r.ds = [] <;> by_cases h2 : 0 < r.ct <;> by_cases h3 : r.un = -1 <;> simp [h1, h2, h3, nms, Lib.join, untilW]

theorem ru_ext {a b : Ru} (h1 : a.fq = b.fq) (h2 : a.ev = b.ev) (h3 : a.ct = b.ct) (h4 : a.un = b.un) (h5 : a.ds = b.ds) : a = b := by
  cases a; cases b; simp_all

theorem words_free (r : Ru) (h : bad r = 0) : ∀ y ∈ r.fq.data.toList :: Lib.itoa r.ev :: (dW r ++ cW r ++ uW r), (32 : UInt8) ∉ y := by
  obtain ⟨h1, h2, h3, h4, h5⟩ := bad_parts h
  obtain ⟨⟨e1, e2⟩, ⟨c1, c2⟩, u1, u2⟩ := bound_parts h2
  intro y hy
  simp only [List.mem_cons, List.mem_append] at hy
  rcases hy with rfl | rfl | (hy | hy) | hy
  · rcases freqs_mem h1 with e | e | e | e | e <;> rw [e] <;> decide
  · exact itoa_free (by omega) (by decide)
  · unfold dW at hy
    split at hy
    · simp at hy
    · simp at hy; subst hy; exact nms_free (days_ok h3)
  · unfold cW at hy
    split at hy
    · simp at hy
      rcases hy with rfl | rfl
      · decide
      · exact itoa_free (by omega) (by decide)
    · simp at hy
  · unfold uW at hy
    split at hy
    · rename_i hu
      simp at hy
      rcases hy with rfl | rfl
      · decide
      · obtain ⟨y, m, d, ha⟩ := Cal.at_exists r.un (by omega) (by omega)
        rw [dayT_at ha]
        exact (day_back ha).2.2
    · simp at hy

theorem toList_mk (l : List UInt8) : (mk l).toList = l := by rw [ByteArray.toList_eq]
theorem tail_back (r : Ru) (h : bad r = 0) : tailC ((cW r ++ uW r).map mk) = 0 ∧ tailB ((cW r ++ uW r).map mk) = true ∧ tailCt ((cW r ++ uW r).map mk) 0 = r.ct ∧ tailUn ((cW r ++ uW r).map mk) (-1) = r.un ∧
    ∀ d t, (cW r ++ uW r).map mk = d :: t → daysOk d = false := by
  obtain ⟨h1, h2, h3, h4, h5⟩ := bad_parts h
  obtain ⟨⟨e1, e2⟩, ⟨c1, c2⟩, u1, u2⟩ := bound_parts h2
  have hcu : r.ct = 0 ∨ r.un = -1 := by
    simp only [shapeB, Bool.and_eq_true, Bool.or_eq_true, decide_eq_true_eq] at h4
    exact h4.2
  have hne : (mk untilW).toList ≠ countW := by rw [toList_mk]; decide
  by_cases hc : 0 < r.ct
  · have hu : r.un = -1 := by omega
    have e : (cW r ++ uW r).map mk = [mk countW, mk (Lib.itoa r.ct)] := by
      unfold cW uW
      rw [if_pos hc, if_neg (by simp [hu])]; rfl
    obtain ⟨n1, n2⟩ := num_back r.ct (by omega) (by omega)
    rw [e]
    refine ⟨?_, ?_, ?_, ?_, ?_⟩
    · simp only [tailC]; rw [if_pos (toList_mk _)]
    · simp only [tailB]; rw [if_pos (toList_mk _)]; simp [n1, n2, hc]
    · simp only [tailCt]; rw [if_pos (toList_mk _)]; simpa using n2
    · simp only [tailUn]; rw [if_pos (toList_mk _), hu]
    · rintro d t hd
      cases hd
      exact days_word (by decide) (by decide)
  · have hct : r.ct = 0 := by omega
    by_cases hu : r.un = -1
    · have e : (cW r ++ uW r).map mk = [] := by
        unfold cW uW
        rw [if_neg hc, if_neg (by simp [hu])]; rfl
      rw [e, hct, hu]
      exact ⟨rfl, rfl, rfl, rfl, fun d t h => by cases h⟩
    · obtain ⟨y, m, d, ha⟩ := Cal.at_exists r.un (by omega) (by omega)
      obtain ⟨d1, d2, _⟩ := day_back ha
      have e : (cW r ++ uW r).map mk = [mk untilW, mk (Cal.text y m d)] := by
        unfold cW uW
        rw [if_neg hc, if_pos hu, dayT_at ha]; rfl
      rw [e]
      refine ⟨?_, ?_, ?_, ?_, ?_⟩
      · simp only [tailC]; rw [if_neg hne, if_pos (toList_mk _)]; simpa using d1
      · simp only [tailB]; rw [if_neg hne]; exact decide_eq_true (toList_mk _)
      · simp only [tailCt]; rw [if_neg hne, hct]
      · simp only [tailUn]; rw [if_neg hne, if_pos (toList_mk _)]; simpa using d2
      · rintro d t hd
        cases hd
        exact days_word (by decide) (by decide)

/-- a good rule's text is read as that rule -/
theorem read_text (r : Ru) (h : bad r = 0) : readS (mk (textL r)) = (0, r) := by
  obtain ⟨h1, h2, h3, h4, h5⟩ := bad_parts h
  obtain ⟨⟨e1, e2⟩, ⟨c1, c2⟩, u1, u2⟩ := bound_parts h2
  by_cases ho : r.fq.toList = onceW
  · have ht : textL r = r.fq.data.toList := by unfold textL; rw [if_pos ho]
    have hm : mk (textL r) = r.fq := by rw [ht]
    rw [hm, readS, if_pos ho]
    simp only [shapeB, ho, Bool.and_eq_true, Bool.or_eq_true, decide_eq_true_eq] at h4
    obtain ⟨⟨h6, h7⟩, h8⟩ := h4
    have h6' : (r.ev = 1 ∧ r.ct = 0) ∧ r.un = -1 := by simpa using h6
    have h7' : r.ds = [] := by rcases h7 with h7 | h7
                               · exact absurd h7 (by decide)
                               · exact h7
    refine Prod.ext rfl (ru_ext rfl h6'.1.1.symm h6'.1.2.symm h6'.2.symm h7'.symm)
  · have hw := words_free r h
    rw [readS, text_words r ho, if_neg ?hno]
    case hno =>
      intro e
      rw [toList_mk] at e
      have : (32 : UInt8) ∈ onceW := by
        rw [← e]
        unfold Lib.join
        rw [List.intercalate_cons_cons]
        simp
      revert this; decide
    rw [pieces_join hw]
    obtain ⟨n1, n2⟩ := num_back r.ev (by omega) (by omega)
    obtain ⟨t1, t2, t3, t4, t5⟩ := tail_back r h
    have hf : mk r.fq.data.toList = r.fq := (str_mk _).symm
    simp only [List.map_cons, hf]
    have hmid : midOf ((dW r ++ cW r ++ uW r).map mk) = (r.ds, (cW r ++ uW r).map mk) := by
      rw [List.append_assoc, List.map_append]
      by_cases hd : r.ds = []
      · have : dW r = [] := by unfold dW; rw [if_pos hd]
        rw [this, hd, List.map_nil, List.nil_append]
        cases hx : (cW r ++ uW r).map mk with
        | nil => rfl
        | cons d t => simp only [midOf]; rw [t5 d t hx]; rfl
      · have : dW r = [nms r.ds] := by unfold dW; rw [if_neg hd]
        obtain ⟨d1, d2⟩ := days_back (days_ok h3) hd
        rw [this]
        simp only [List.map_cons, List.map_nil, List.cons_append, List.nil_append, midOf, d1, d2]
        rfl
    have hru : ruleOf r.fq (mk (Lib.itoa r.ev)) ((dW r ++ cW r ++ uW r).map mk) = r := by
      unfold ruleOf
      rw [hmid]
      exact ru_ext rfl (by simpa using n2) t3 t4 rfl
    have hh : headB (r.fq :: mk (Lib.itoa r.ev) :: (dW r ++ cW r ++ uW r).map mk) = true := by
      simp only [headB, h1, Bool.and_true]
      simpa using ho
    have hn1 : numOk (mk (Lib.itoa r.ev)).data.toList = true := by simpa using n1
    simp only [readCR]
    rw [if_pos ⟨hh, hn1⟩, hmid, if_neg (by rw [t1]; decide), if_neg (by rw [t2]; decide), hru, if_neg (by rw [h]; decide)]

theorem same_iff {a b : Ru} : sameB a b = true ↔ a = b := by
  constructor
  · intro h
    simp only [sameB, Bool.and_eq_true, decide_eq_true_eq] at h
    obtain ⟨⟨⟨⟨h1, h2⟩, h3⟩, h4⟩, h5⟩ := h
    exact ru_ext h1 h2 h3 h4 h5
  · rintro rfl; simp [sameB]
/-- two good rules have one text only if they are one -/
theorem text_same (a b : Ru) (ha : bad a = 0) (hb : bad b = 0) : (textL a == textL b) = sameB a b := by
  rw [Bool.eq_iff_iff, beq_iff_eq, same_iff]
  constructor
  · intro h
    have h1 := read_text a ha
    rw [h, read_text b hb] at h1
    exact (congrArg Prod.snd h1).symm
  · rintro rfl; rfl
end Rul
end Go.Proofs.YtmlndamkcipebaaDoor
