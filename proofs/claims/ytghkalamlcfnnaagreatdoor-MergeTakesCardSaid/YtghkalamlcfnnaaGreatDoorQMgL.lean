/- Three calendars made one, in plain Lean. -/
import Derived.Test.YtghkalamlcfnnaaGreatDoorQC2
import Derived.Test.YtghkalamlcfnnaaGreatDoorQEvSort
namespace Go.Proofs.YtghkalamlcfnnaaGreatDoor
open Go Go.RowKit Lmd
namespace Mg
open Evt Bk Df Rul Day Cand Er Tp
def pickG {α : Type} [DecidableEq α] (base a b : α) : α × Bool := if a = b ∨ b = base then (a, true) else if a = base then (b, true) else (base, false)
section
variable {α : Type} [DecidableEq α]
theorem pick_swap (x y z : α) : pickG x y z = pickG x z y := by
  unfold pickG
  by_cases h1 : y = z
  · subst h1; rfl
  · have h1' : ¬ z = y := fun e => h1 e.symm
    by_cases h2 : z = x
    · have h3 : ¬ y = x := fun e => h1 (e.trans h2.symm)
      rw [if_pos (.inr h2), if_neg (fun h => h.elim h1' h3), if_pos h2]
    · by_cases h3 : y = x
      · rw [if_neg (fun h => h.elim h1 h2), if_pos h3, if_pos (.inr h3)]
      · rw [if_neg (fun h => h.elim h1 h2), if_neg h3, if_neg (fun h => h.elim h1' h3), if_neg h2]
theorem pick_left (x y : α) : pickG x y x = (y, true) := by unfold pickG; rw [if_pos (.inr rfl)]
theorem pick_right (x y : α) : pickG x x y = (y, true) := by rw [pick_swap, pick_left]
theorem pick_mem {x y z : α} (h : (pickG x y z).2 = true) : (pickG x y z).1 = y ∨ (pickG x y z).1 = z := by
  unfold pickG at h ⊢
  split
  · exact .inl rfl
  · split
    · exact .inr rfl
    · rename_i h1 h2; rw [if_neg h1, if_neg h2] at h; cases h
end
def skM (x y z : List Int) : List Int := (Lmd.Cpt.uniq (x ++ y ++ z)).filter fun d => (pickG (x.contains d) (y.contains d) (z.contains d)).1
def toI (l : List (Int × Int)) (f : Int) : Int := match l.find? (fun m => decide (m.1 = f)) with | some m => m.2 | none => -1
def mvK (x y z : List (Int × Int)) : List Int → List (Int × Int) → List (Int × Int) × Bool
  | [], o => (o, true)
  | f :: t, o => if (pickG (toI x f) (toI y f) (toI z f)).2 = false then ([], false) else mvK x y z t (if 0 ≤ (pickG (toI x f) (toI y f) (toI z f)).1 then o ++ [(f, (pickG (toI x f) (toI y f) (toI z f)).1)] else o)
def mvM (x y z : List (Int × Int)) : List (Int × Int) × Bool := mvK x y z (Lmd.Cpt.uniq (froms x ++ froms y ++ froms z)) []
noncomputable def pk (x y z : Ev) (f : ByteArray) : ByteArray × Bool := pickG (getL x f) (getL y f) (getL z f)
noncomputable def fld (x y z : Ev) (f : ByteArray) (o : Ev) : Ev × Bool :=
  if (pk x y z f).2 = true then (if (pk x y z f).1 = getL y f then (o, true) else (takeE f z o, true))
  else if f = fSkips then ({ o with sk := skM x.sk y.sk z.sk }, true)
  else if f = fMoves then ({ o with mv := (mvM x.mv y.mv z.mv).1 }, (mvM x.mv y.mv z.mv).2)
  else (o, false)
noncomputable def flds (x y z : Ev) : List ByteArray → Ev → List ByteArray → Ev × List ByteArray
  | [], o, bad => (o, bad)
  | f :: t, o, bad => flds x y z t (fld x y z f o).1 (if (fld x y z f o).2 = true then bad else bad ++ [f])
noncomputable def src (x y z : Ev) (f : ByteArray) : Ev :=
  if (pk x y z f).2 = true then (if (pk x y z f).1 = getL y f then y else z)
  else if f = fSkips then { y with sk := skM x.sk y.sk z.sk }
  else if f = fMoves then { y with mv := (mvM x.mv y.mv z.mv).1 }
  else y
noncomputable def badF (x y z : Ev) (f : ByteArray) : Bool := !(decide ((pk x y z f).2 = true) || decide (f = fSkips) || (decide (f = fMoves) && (mvM x.mv y.mv z.mv).2))
theorem take_comm {f g : ByteArray} (hf : f ∈ fieldL) (hg : g ∈ fieldL) (hne : g ≠ f) (a b o : Ev) : takeE g b (takeE f a o) = takeE f a (takeE g b o) := by
  simp only [fieldL, List.mem_cons, List.not_mem_nil, or_false] at hf hg
  rcases hf with rfl | rfl | rfl | rfl | rfl | rfl <;> rcases hg with rfl | rfl | rfl | rfl | rfl | rfl <;> first
    | exact absurd rfl hne
    | (simp only [takeT, takeS, takeL, takeR, takeK, takeM])
theorem fld_bad (x y z : Ev) (f : ByteArray) (o : Ev) : (fld x y z f o).2 = !badF x y z f := by
  unfold fld badF
  by_cases h1 : (pk x y z f).2 = true
  · rw [if_pos h1, decide_eq_true h1]; split <;> rfl
  · rw [if_neg h1, decide_eq_false h1]
    by_cases h2 : f = fSkips
    · rw [if_pos h2, decide_eq_true h2]; rfl
    · rw [if_neg h2, decide_eq_false h2]
      by_cases h3 : f = fMoves
      · rw [if_pos h3, decide_eq_true h3]; simp
      · rw [if_neg h3, decide_eq_false h3]; rfl
theorem fld_src {x y z : Ev} {f : ByteArray} {o : Ev} (ho : takeE f y o = o) : (fld x y z f o).1 = takeE f (src x y z f) o := by
  unfold fld src
  by_cases h1 : (pk x y z f).2 = true
  · rw [if_pos h1, if_pos h1]
    split
    · exact ho.symm
    · rfl
  · rw [if_neg h1, if_neg h1]
    by_cases h2 : f = fSkips
    · rw [if_pos h2, if_pos h2, h2, takeK]
    · rw [if_neg h2, if_neg h2]
      by_cases h3 : f = fMoves
      · rw [if_pos h3, if_pos h3, h3, takeM]
      · rw [if_neg h3, if_neg h3]; exact ho.symm
theorem flds_eq {x y z : Ev} : ∀ (t : List ByteArray) (o : Ev) (bad : List ByteArray), t.Nodup → (∀ f ∈ t, f ∈ fieldL) → (∀ f ∈ t, takeE f y o = o) →
    flds x y z t o bad = (t.foldl (fun o f => takeE f (src x y z f) o) o, bad ++ t.filter (badF x y z))
  | [], o, bad, _, _, _ => by simp [flds]
  | f :: t, o, bad, hn, hm, ho => by
    have hf := hm f (List.mem_cons_self ..)
    obtain ⟨n1, n2⟩ := List.nodup_cons.1 hn
    unfold flds
    rw [fld_bad x y z f o, fld_src (ho f (List.mem_cons_self ..))]
    rw [flds_eq t _ _ n2 (fun g hg => hm g (List.mem_cons_of_mem _ hg)) (fun g hg => by
      rw [take_comm hf (hm g (List.mem_cons_of_mem _ hg)) (fun e => n1 (e ▸ hg)), ho g (List.mem_cons_of_mem _ hg)])]
    rw [List.foldl_cons, List.filter_cons]
    cases badF x y z f <;> simp
theorem fields_once : fieldL.Nodup := by
  have hne : ∀ a b : ByteArray, a.toList ≠ b.toList → a ≠ b := fun a b h e => h (by rw [e])
  unfold fieldL
  simp only [List.nodup_cons, List.mem_cons, List.not_mem_nil, or_false, not_or, not_false_eq_true, List.nodup_nil, and_true]
  refine ⟨⟨?_, ?_, ?_, ?_, ?_⟩, ⟨?_, ?_, ?_, ?_⟩, ⟨?_, ?_, ?_⟩, ⟨?_, ?_⟩, ?_⟩ <;> refine hne _ _ ?_ <;> simp only [tlT, tlS, tlL, tlR, tlK, tlM] <;> decide
noncomputable def mixE (x y z : Ev) : Ev := (flds x y z fieldL y []).1
noncomputable def mixB (x y z : Ev) : List ByteArray := if (flds x y z fieldL y []).2 = [] ∧ badE (mixE x y z) ≠ 0 then [allB] else (flds x y z fieldL y []).2
theorem flds_all (x y z : Ev) : flds x y z fieldL y [] = (fieldL.foldl (fun o f => takeE f (src x y z f) o) y, fieldL.filter (badF x y z)) := by
  rw [flds_eq fieldL y [] fields_once (fun _ h => h) (fun f hf => take_self hf y), List.nil_append]
theorem fold_all (s : ByteArray → Ev) (o : Ev) : fieldL.foldl (fun o f => takeE f (s f) o) o = ⟨o.id, (s fTitle).ti, (s fStart).st, (s fLong).lg, (s fRule).ru, (s fSkips).sk, (s fMoves).mv⟩ := by
  show takeE fMoves _ (takeE fSkips _ (takeE fRule _ (takeE fLong _ (takeE fStart _ (takeE fTitle _ o))))) = _
  rw [takeM, takeK, takeR, takeL, takeS, takeT]
noncomputable def txt (k : List UInt8) (L : List Ev) : ByteArray := if hasK k L = true then mk (textE (foundE k L)) else nilB
theorem textE_ne (e : Ev) : mk (textE e) ≠ nilB := by
  intro h
  have h1 : textE e = [] := by
    have := congrArg (fun b : ByteArray => b.data.toList) h
    simpa [nilB] using this
  unfold textE partsE fieldL at h1
  simp [Lib.join_cons, Lib.joinTail] at h1
theorem txt_nil {k : List UInt8} {L : List Ev} : txt k L = nilB ↔ hasK k L = false := by
  unfold txt
  split
  · rename_i h; rw [h]; exact ⟨fun e => absurd e (textE_ne _), fun e => by cases e⟩
  · rename_i h; exact ⟨fun _ => by simpa using h, fun _ => rfl⟩
theorem txt_read {L : List Ev} (h : ∀ e ∈ L, badE e = 0) {k : List UInt8} (hk : hasK k L = true) : readC (txt k L) = 0 ∧ readE (txt k L) = foundE k L := by
  unfold txt
  rw [if_pos hk]
  exact text_back (h _ (foundE_has hk).1)
noncomputable def pkT (x y z : List Ev) (k : List UInt8) : ByteArray × Bool := pickG (txt k x) (txt k y) (txt k z)
noncomputable def oneM (x y z : List Ev) (k : List UInt8) (out : List Ev) : List ByteArray × List Ev :=
  if (pkT x y z k).2 = true then
    (if (pkT x y z k).1 = nilB then ([], out) else if putK (readE (pkT x y z k).1) out ≠ 0 then ([allB], out) else ([], withE (readE (pkT x y z k).1) out))
  else if txt k x = nilB ∨ txt k y = nilB ∨ txt k z = nilB then ([allB], out)
  else if mixB (foundE k x) (foundE k y) (foundE k z) ≠ [] then (mixB (foundE k x) (foundE k y) (foundE k z), out)
  else if putK (mixE (foundE k x) (foundE k y) (foundE k z)) out ≠ 0 then ([allB], out)
  else ([], withE (mixE (foundE k x) (foundE k y) (foundE k z)) out)
noncomputable def threeM (x y z : List Ev) : List ByteArray → List Ev → List (ByteArray × ByteArray) → List Ev × List (ByteArray × ByteArray)
  | [], out, bad => (out, bad)
  | id :: U, out, bad => threeM x y z U (oneM x y z id.data.toList out).2 (bad ++ (oneM x y z id.data.toList out).1.map fun f => (id, f))
theorem three_bad (x y z : List Ev) : ∀ (U : List ByteArray) (out : List Ev) (bad : List (ByteArray × ByteArray)), (threeM x y z U out bad).2 = [] → bad = []
  | [], _, _, h => h
  | id :: U, out, bad, h => by
    unfold threeM at h
    have := three_bad x y z U _ _ h
    exact (List.append_eq_nil_iff.1 this).1
noncomputable def ofT (s : ByteArray) : Option Ev := if s = nilB then none else some (readE s)
theorem key_txt {L : List Ev} (h : ∀ e ∈ L, badE e = 0) {k : List UInt8} (hk : txt k L ≠ nilB) : key (readE (txt k L)) = k := by
  have h1 : hasK k L = true := by
    cases hh : hasK k L with
    | true => rfl
    | false => exact absurd (txt_nil.2 hh) hk
  rw [(txt_read h h1).2]
  exact (foundE_has h1).2
theorem one_at {x y z out : List Ev} (hy : ∀ e ∈ y, badE e = 0) (hz : ∀ e ∈ z, badE e = 0) (ho : Df.Good out) (k : List UInt8) (h0 : (oneM x y z k out).1 = []) (hnew : evAt k out = none) :
    Df.Good (oneM x y z k out).2 ∧ (∀ k', k' ≠ k → evAt k' (oneM x y z k out).2 = evAt k' out) ∧ ((pkT x y z k).2 = true → evAt k (oneM x y z k out).2 = ofT (pkT x y z k).1) := by
  unfold oneM at h0 ⊢
  by_cases h1 : (pkT x y z k).2 = true
  · rw [if_pos h1] at h0 ⊢
    by_cases h2 : (pkT x y z k).1 = nilB
    · rw [if_pos h2]
      exact ⟨ho, fun _ _ => rfl, fun _ => by unfold ofT; rw [if_pos h2]; exact hnew⟩
    · rw [if_neg h2] at h0 ⊢
      by_cases h3 : putK (readE (pkT x y z k).1) out ≠ 0
      · rw [if_pos h3] at h0; cases h0
      · rw [if_neg h3]
        have hk : key (readE (pkT x y z k).1) = k := by
          rcases pick_mem h1 with e | e
          · have e' : (pkT x y z k).1 = txt k y := e
            rw [e'] at h2 ⊢; exact key_txt hy h2
          · have e' : (pkT x y z k).1 = txt k z := e
            rw [e'] at h2 ⊢; exact key_txt hz h2
        refine ⟨ho.with (Decidable.not_not.1 h3), fun k' hne => ?_, fun _ => ?_⟩
        · show evAt k' (withE _ out) = _
          rw [at_with ho.asc, hk, if_neg hne]
        · show evAt k (withE _ out) = _
          rw [at_with ho.asc, hk, if_pos rfl]
          unfold ofT; rw [if_neg h2]
  · rw [if_neg h1] at h0 ⊢
    by_cases h2 : txt k x = nilB ∨ txt k y = nilB ∨ txt k z = nilB
    · rw [if_pos h2] at h0; cases h0
    · rw [if_neg h2] at h0 ⊢
      by_cases h3 : mixB (foundE k x) (foundE k y) (foundE k z) ≠ []
      · rw [if_pos h3] at h0; exact absurd h0 h3
      · rw [if_neg h3] at h0 ⊢
        by_cases h4 : putK (mixE (foundE k x) (foundE k y) (foundE k z)) out ≠ 0
        · rw [if_pos h4] at h0; cases h0
        · rw [if_neg h4]
          have hyk : hasK k y = true := by
            cases hh : hasK k y with
            | true => rfl
            | false => exact absurd (.inr (.inl (txt_nil.2 hh))) h2
          have hk : key (mixE (foundE k x) (foundE k y) (foundE k z)) = k := by
            unfold mixE
            rw [flds_all]
            dsimp only
            rw [fold_all]
            exact (foundE_has hyk).2
          refine ⟨ho.with (Decidable.not_not.1 h4), fun k' hne => ?_, fun h => absurd h h1⟩
          show evAt k' (withE _ out) = _
          rw [at_with ho.asc, hk, if_neg hne]
theorem three_at {x y z : List Ev} (hy : ∀ e ∈ y, badE e = 0) (hz : ∀ e ∈ z, badE e = 0) : ∀ (U : List ByteArray) (out : List Ev) (bad : List (ByteArray × ByteArray)), Df.Good out → U.Nodup → (∀ id ∈ U, evAt id.data.toList out = none) → (threeM x y z U out bad).2 = [] →
    Df.Good (threeM x y z U out bad).1 ∧ (∀ k, k ∉ U.map (·.data.toList) → evAt k (threeM x y z U out bad).1 = evAt k out) ∧ (∀ id ∈ U, (pkT x y z id.data.toList).2 = true → evAt id.data.toList (threeM x y z U out bad).1 = ofT (pkT x y z id.data.toList).1)
  | [], out, bad, ho, _, _, _ => ⟨ho, fun _ _ => rfl, fun _ h => by cases h⟩
  | id :: U, out, bad, ho, hn, hnew, h0 => by
    obtain ⟨n1, n2⟩ := List.nodup_cons.1 hn
    unfold threeM at h0 ⊢
    have hb := three_bad x y z U _ _ h0
    have h1 : (oneM x y z id.data.toList out).1 = [] := List.map_eq_nil_iff.1 (List.append_eq_nil_iff.1 hb).2
    obtain ⟨g1, g2, g3⟩ := one_at hy hz ho id.data.toList h1 (hnew id (List.mem_cons_self ..))
    have hne : ∀ id' ∈ U, id'.data.toList ≠ id.data.toList := fun id' h e => n1 (by rw [show id = id' from by rw [str_mk id, str_mk id', e]]; exact h)
    have hnotU : id.data.toList ∉ U.map (·.data.toList) := fun h => by
      obtain ⟨i2, hi, e⟩ := List.mem_map.1 h
      exact hne i2 hi e
    obtain ⟨q1, q2, q3⟩ := three_at hy hz U _ _ g1 n2 (fun i2 hi => by rw [g2 _ (hne i2 hi)]; exact hnew i2 (List.mem_cons_of_mem _ hi)) h0
    refine ⟨q1, fun k hk => ?_, fun i2 hi hp => ?_⟩
    · rw [q2 k (fun h => hk (by rw [List.map_cons]; exact List.mem_cons_of_mem _ h)), g2 k (fun e => hk (by rw [e, List.map_cons]; exact List.mem_cons_self ..))]
    · rcases List.mem_cons.1 hi with rfl | hi
      · rw [q2 _ hnotU]; exact g3 hp
      · exact q3 i2 hi hp
end Mg
end Go.Proofs.YtghkalamlcfnnaaGreatDoor
