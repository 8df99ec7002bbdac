/- Three calendars made one, in plain Lean. -/
import Derived.Test.YtghkalamlcfnnaaGreatDoorQC2
import Derived.Test.YtghkalamlcfnnaaGreatDoorQEvSort
namespace Go.Proofs.YtghkalamlcfnnaaGreatDoor
open Go Go.RowKit Lmd
namespace Mg
open Evt Bk Df Rul Day Cand Er Tp
def pickG {α : Type} [DecidableEq α] (base a b : α) : α × Bool := if a = b ∨ b = base then (a, true) else if a = base then (b, true) else (base, false)
section
variable {α : Type} [DecidableEq α]
theorem pick_swap (x y z : α) : pickG x y z = pickG x z y := by
  unfold pickG
  by_cases h1 : y = z
  · subst h1; rfl
  · have h1' : ¬ z = y := fun e => h1 e.symm
    by_cases h2 : z = x
    · have h3 : ¬ y = x := fun e => h1 (e.trans h2.symm)
      rw [if_pos (.inr h2), if_neg (fun h => h.elim h1' h3), if_pos h2]
    · by_cases h3 : y = x
      · rw [if_neg (fun h => h.elim h1 h2), if_pos h3, if_pos (.inr h3)]
      · rw [if_neg (fun h => h.elim h1 h2), if_neg h3, if_neg (fun h => h.elim h1' h3), if_neg h2]
theorem pick_same (x y : α) : pickG x y y = (y, true) := by unfold pickG; rw [if_pos (.inl rfl)]
theorem pick_left (x y : α) : pickG x y x = (y, true) := by unfold pickG; rw [if_pos (.inr rfl)]
theorem pick_right (x y : α) : pickG x x y = (y, true) := by rw [pick_swap, pick_left]
theorem pick_mem {x y z : α} (h : (pickG x y z).2 = true) : (pickG x y z).1 = y ∨ (pickG x y z).1 = z := by
  unfold pickG at h ⊢
  split
  · exact .inl rfl
  · split
    · exact .inr rfl
    · rename_i h1 h2; rw [if_neg h1, if_neg h2] at h; cases h
end
def skM (x y z : List Int) : List Int := (Lmd.Cpt.uniq (x ++ y ++ z)).filter fun d => (pickG (x.contains d) (y.contains d) (z.contains d)).1
def toI (l : List (Int × Int)) (f : Int) : Int := match l.find? (fun m => decide (m.1 = f)) with | some m => m.2 | none => -1
def mvK (x y z : List (Int × Int)) : List Int → List (Int × Int) → List (Int × Int) × Bool
  | [], o => (o, true)
  | f :: t, o => if (pickG (toI x f) (toI y f) (toI z f)).2 = false then ([], false) else mvK x y z t (if 0 ≤ (pickG (toI x f) (toI y f) (toI z f)).1 then o ++ [(f, (pickG (toI x f) (toI y f) (toI z f)).1)] else o)
def mvM (x y z : List (Int × Int)) : List (Int × Int) × Bool := mvK x y z (Lmd.Cpt.uniq (froms x ++ froms y ++ froms z)) []
theorem rise_ext {a b : List Int} (ha : a.Pairwise (· < ·)) (hb : b.Pairwise (· < ·)) (h : ∀ x, x ∈ a ↔ x ∈ b) : a = b := by
  have n1 : a.Nodup := ha.imp fun {a b} (h : a < b) (e : a = b) => by omega
  have n2 : b.Nodup := hb.imp fun {a b} (h : a < b) (e : a = b) => by omega
  exact List.Perm.eq_of_pairwise (le := fun x y : Int => x < y) (fun _ _ _ _ h1 h2 => by omega) ha hb ((List.perm_ext_iff_of_nodup n1 n2).2 h)
theorem uniq_swap (x y z : List Int) : Lmd.Cpt.uniq (x ++ y ++ z) = Lmd.Cpt.uniq (x ++ z ++ y) := by
  refine rise_ext (Lmd.Cpt.uniq_rise _) (Lmd.Cpt.uniq_rise _) fun d => ?_
  rw [Lmd.Cpt.uniq_mem, Lmd.Cpt.uniq_mem]
  simp only [List.mem_append]
  constructor
  · rintro ((h | h) | h)
    · exact .inl (.inl h)
    · exact .inr h
    · exact .inl (.inr h)
  · rintro ((h | h) | h)
    · exact .inl (.inl h)
    · exact .inr h
    · exact .inl (.inr h)
theorem sk_swap (x y z : List Int) : skM x y z = skM x z y := by
  unfold skM
  rw [uniq_swap]
  congr 1
  funext d
  rw [pick_swap]
theorem mvK_swap (x y z : List (Int × Int)) : ∀ (l : List Int) (o : List (Int × Int)), mvK x y z l o = mvK x z y l o
  | [], _ => rfl
  | f :: t, o => by
    unfold mvK
    rw [pick_swap (toI x f) (toI y f) (toI z f)]
    split
    · rfl
    · exact mvK_swap x y z t _
theorem mv_swap (x y z : List (Int × Int)) : mvM x y z = mvM x z y := by
  unfold mvM
  rw [uniq_swap, mvK_swap]
noncomputable def pk (x y z : Ev) (f : ByteArray) : ByteArray × Bool := pickG (getL x f) (getL y f) (getL z f)
noncomputable def fld (x y z : Ev) (f : ByteArray) (o : Ev) : Ev × Bool :=
  if (pk x y z f).2 = true then (if (pk x y z f).1 = getL y f then (o, true) else (takeE f z o, true))
  else if f = fSkips then ({ o with sk := skM x.sk y.sk z.sk }, true)
  else if f = fMoves then ({ o with mv := (mvM x.mv y.mv z.mv).1 }, (mvM x.mv y.mv z.mv).2)
  else (o, false)
noncomputable def flds (x y z : Ev) : List ByteArray → Ev → List ByteArray → Ev × List ByteArray
  | [], o, bad => (o, bad)
  | f :: t, o, bad => flds x y z t (fld x y z f o).1 (if (fld x y z f o).2 = true then bad else bad ++ [f])
noncomputable def src (x y z : Ev) (f : ByteArray) : Ev :=
  if (pk x y z f).2 = true then (if (pk x y z f).1 = getL y f then y else z)
  else if f = fSkips then { y with sk := skM x.sk y.sk z.sk }
  else if f = fMoves then { y with mv := (mvM x.mv y.mv z.mv).1 }
  else y
noncomputable def badF (x y z : Ev) (f : ByteArray) : Bool := !(decide ((pk x y z f).2 = true) || decide (f = fSkips) || (decide (f = fMoves) && (mvM x.mv y.mv z.mv).2))
theorem take_comm {f g : ByteArray} (hf : f ∈ fieldL) (hg : g ∈ fieldL) (hne : g ≠ f) (a b o : Ev) : takeE g b (takeE f a o) = takeE f a (takeE g b o) := by
  simp only [fieldL, List.mem_cons, List.not_mem_nil, or_false] at hf hg
  rcases hf with rfl | rfl | rfl | rfl | rfl | rfl <;> rcases hg with rfl | rfl | rfl | rfl | rfl | rfl <;> first
    | exact absurd rfl hne
    | (simp only [takeT, takeS, takeL, takeR, takeK, takeM])
theorem take_eq {y z : Ev} (hy : badE y = 0) (hz : badE z = 0) {f : ByteArray} (hf : f ∈ fieldL) (h : getL y f = getL z f) (o : Ev) : takeE f y o = takeE f z o := by
  rw [← (put_back hy hf o).2, h, (put_back hz hf o).2]
theorem fld_bad (x y z : Ev) (f : ByteArray) (o : Ev) : (fld x y z f o).2 = !badF x y z f := by
  unfold fld badF
  by_cases h1 : (pk x y z f).2 = true
  · rw [if_pos h1, decide_eq_true h1]; split <;> rfl
  · rw [if_neg h1, decide_eq_false h1]
    by_cases h2 : f = fSkips
    · rw [if_pos h2, decide_eq_true h2]; rfl
    · rw [if_neg h2, decide_eq_false h2]
      by_cases h3 : f = fMoves
      · rw [if_pos h3, decide_eq_true h3]; simp
      · rw [if_neg h3, decide_eq_false h3]; rfl
theorem fld_src {x y z : Ev} {f : ByteArray} {o : Ev} (ho : takeE f y o = o) : (fld x y z f o).1 = takeE f (src x y z f) o := by
  unfold fld src
  by_cases h1 : (pk x y z f).2 = true
  · rw [if_pos h1, if_pos h1]
    split
    · exact ho.symm
    · rfl
  · rw [if_neg h1, if_neg h1]
    by_cases h2 : f = fSkips
    · rw [if_pos h2, if_pos h2, h2, takeK]
    · rw [if_neg h2, if_neg h2]
      by_cases h3 : f = fMoves
      · rw [if_pos h3, if_pos h3, h3, takeM]
      · rw [if_neg h3, if_neg h3]; exact ho.symm
theorem flds_eq {x y z : Ev} : ∀ (t : List ByteArray) (o : Ev) (bad : List ByteArray), t.Nodup → (∀ f ∈ t, f ∈ fieldL) → (∀ f ∈ t, takeE f y o = o) →
    flds x y z t o bad = (t.foldl (fun o f => takeE f (src x y z f) o) o, bad ++ t.filter (badF x y z))
  | [], o, bad, _, _, _ => by simp [flds]
  | f :: t, o, bad, hn, hm, ho => by
    have hf := hm f (List.mem_cons_self ..)
    obtain ⟨n1, n2⟩ := List.nodup_cons.1 hn
    unfold flds
    rw [fld_bad x y z f o, fld_src (ho f (List.mem_cons_self ..))]
    rw [flds_eq t _ _ n2 (fun g hg => hm g (List.mem_cons_of_mem _ hg)) (fun g hg => by
      rw [take_comm hf (hm g (List.mem_cons_of_mem _ hg)) (fun e => n1 (e ▸ hg)), ho g (List.mem_cons_of_mem _ hg)])]
    rw [List.foldl_cons, List.filter_cons]
    cases badF x y z f <;> simp
theorem fields_once : fieldL.Nodup := by
  have hne : ∀ a b : ByteArray, a.toList ≠ b.toList → a ≠ b := fun a b h e => h (by rw [e])
  unfold fieldL
  simp only [List.nodup_cons, List.mem_cons, List.not_mem_nil, or_false, not_or, not_false_eq_true, List.nodup_nil, and_true]
  refine ⟨⟨?_, ?_, ?_, ?_, ?_⟩, ⟨?_, ?_, ?_, ?_⟩, ⟨?_, ?_, ?_⟩, ⟨?_, ?_⟩, ?_⟩ <;> refine hne _ _ ?_ <;> simp only [tlT, tlS, tlL, tlR, tlK, tlM] <;> decide
noncomputable def mixE (x y z : Ev) : Ev := (flds x y z fieldL y []).1
noncomputable def mixB (x y z : Ev) : List ByteArray := if (flds x y z fieldL y []).2 = [] ∧ badE (mixE x y z) ≠ 0 then [allB] else (flds x y z fieldL y []).2
theorem flds_all (x y z : Ev) : flds x y z fieldL y [] = (fieldL.foldl (fun o f => takeE f (src x y z f) o) y, fieldL.filter (badF x y z)) := by
  rw [flds_eq fieldL y [] fields_once (fun _ h => h) (fun f hf => take_self hf y), List.nil_append]
theorem fold_all (s : ByteArray → Ev) (o : Ev) : fieldL.foldl (fun o f => takeE f (s f) o) o = ⟨o.id, (s fTitle).ti, (s fStart).st, (s fLong).lg, (s fRule).ru, (s fSkips).sk, (s fMoves).mv⟩ := by
  show takeE fMoves _ (takeE fSkips _ (takeE fRule _ (takeE fLong _ (takeE fStart _ (takeE fTitle _ o))))) = _
  rw [takeM, takeK, takeR, takeL, takeS, takeT]
theorem pk_swap (x y z : Ev) (f : ByteArray) : pk x y z f = pk x z y f := pick_swap _ _ _
theorem bad_swap (x y z : Ev) (f : ByteArray) : badF x y z f = badF x z y f := by unfold badF; rw [pk_swap, mv_swap]
theorem src_swap {x y z : Ev} (hy : badE y = 0) (hz : badE z = 0) {f : ByteArray} (hf : f ∈ fieldL) (hb : badF x y z f = false) (o : Ev) : takeE f (src x y z f) o = takeE f (src x z y f) o := by
  unfold src
  rw [pk_swap x z y]
  by_cases h1 : (pk x y z f).2 = true
  · rw [if_pos h1, if_pos h1]
    have hm : (pk x y z f).1 = getL y f ∨ (pk x y z f).1 = getL z f := pick_mem h1
    by_cases h2 : (pk x y z f).1 = getL y f
    · rw [if_pos h2]
      split
      · rename_i h3; exact take_eq hy hz hf (h2.symm.trans h3) o
      · rfl
    · rw [if_neg h2, if_pos (hm.resolve_left h2)]
  · rw [if_neg h1, if_neg h1]
    by_cases h2 : f = fSkips
    · rw [if_pos h2, if_pos h2, h2, takeK, takeK, sk_swap]
    · rw [if_neg h2, if_neg h2]
      by_cases h3 : f = fMoves
      · rw [if_pos h3, if_pos h3, h3, takeM, takeM, mv_swap]
      · unfold badF at hb
        rw [decide_eq_false h1, decide_eq_false h2, decide_eq_false h3] at hb
        cases hb
theorem mix_swap {x y z : Ev} (hy : badE y = 0) (hz : badE z = 0) (hid : y.id = z.id) : mixB x y z = mixB x z y ∧ (mixB x y z = [] → mixE x y z = mixE x z y) := by
  have hbad : fieldL.filter (badF x y z) = fieldL.filter (badF x z y) := by congr 1; funext f; exact bad_swap x y z f
  have hE : fieldL.filter (badF x y z) = [] → mixE x y z = mixE x z y := by
    intro h0
    have h1 : ∀ f ∈ fieldL, badF x y z f = false := fun f hf => by
      have := List.filter_eq_nil_iff.1 h0 f hf
      simpa using this
    unfold mixE
    rw [flds_all, flds_all]
    dsimp only
    rw [fold_all, fold_all, hid]
    have c := fun f hf => src_swap hy hz (f := f) hf (h1 f hf) y
    have c1 := c fTitle (by simp [fieldL])
    have c2 := c fStart (by simp [fieldL])
    have c3 := c fLong (by simp [fieldL])
    have c4 := c fRule (by simp [fieldL])
    have c5 := c fSkips (by simp [fieldL])
    have c6 := c fMoves (by simp [fieldL])
    rw [takeT, takeT] at c1
    rw [takeS, takeS] at c2
    rw [takeL, takeL] at c3
    rw [takeR, takeR] at c4
    rw [takeK, takeK] at c5
    rw [takeM, takeM] at c6
    injection c1 with _ c1
    injection c2 with _ _ c2
    injection c3 with _ _ _ c3
    injection c4 with _ _ _ _ c4
    injection c5 with _ _ _ _ _ c5
    injection c6 with _ _ _ _ _ _ c6
    rw [c1, c2, c3, c4, c5, c6]
  have hB : mixB x y z = mixB x z y := by
    unfold mixB
    rw [flds_all, flds_all]
    dsimp only
    rw [← hbad]
    by_cases h0 : fieldL.filter (badF x y z) = []
    · rw [hE h0]
    · rw [if_neg (fun h => h0 h.1), if_neg (fun h => h0 h.1)]
  refine ⟨hB, fun h => hE ?_⟩
  unfold mixB at h
  rw [flds_all] at h
  split at h
  · cases h
  · exact h
noncomputable def txt (k : List UInt8) (L : List Ev) : ByteArray := if hasK k L = true then mk (textE (foundE k L)) else nilB
theorem textE_ne (e : Ev) : mk (textE e) ≠ nilB := by
  intro h
  have h1 : textE e = [] := by
    have := congrArg (fun b : ByteArray => b.data.toList) h
    simpa [nilB] using this
  unfold textE partsE fieldL at h1
  simp [Lib.join_cons, Lib.joinTail] at h1
theorem txt_nil {k : List UInt8} {L : List Ev} : txt k L = nilB ↔ hasK k L = false := by
  unfold txt
  split
  · rename_i h; rw [h]; exact ⟨fun e => absurd e (textE_ne _), fun e => by cases e⟩
  · rename_i h; exact ⟨fun _ => by simpa using h, fun _ => rfl⟩
theorem txt_read {L : List Ev} (h : ∀ e ∈ L, badE e = 0) {k : List UInt8} (hk : hasK k L = true) : readC (txt k L) = 0 ∧ readE (txt k L) = foundE k L := by
  unfold txt
  rw [if_pos hk]
  exact text_back (h _ (foundE_has hk).1)
noncomputable def pkT (x y z : List Ev) (k : List UInt8) : ByteArray × Bool := pickG (txt k x) (txt k y) (txt k z)
noncomputable def oneM (x y z : List Ev) (k : List UInt8) (out : List Ev) : List ByteArray × List Ev :=
  if (pkT x y z k).2 = true then
    (if (pkT x y z k).1 = nilB then ([], out) else if putK (readE (pkT x y z k).1) out ≠ 0 then ([allB], out) else ([], withE (readE (pkT x y z k).1) out))
  else if txt k x = nilB ∨ txt k y = nilB ∨ txt k z = nilB then ([allB], out)
  else if mixB (foundE k x) (foundE k y) (foundE k z) ≠ [] then (mixB (foundE k x) (foundE k y) (foundE k z), out)
  else if putK (mixE (foundE k x) (foundE k y) (foundE k z)) out ≠ 0 then ([allB], out)
  else ([], withE (mixE (foundE k x) (foundE k y) (foundE k z)) out)
noncomputable def threeM (x y z : List Ev) : List ByteArray → List Ev → List (ByteArray × ByteArray) → List Ev × List (ByteArray × ByteArray)
  | [], out, bad => (out, bad)
  | id :: U, out, bad => threeM x y z U (oneM x y z id.data.toList out).2 (bad ++ (oneM x y z id.data.toList out).1.map fun f => (id, f))
theorem one_swap {x y z : List Ev} (hy : ∀ e ∈ y, badE e = 0) (hz : ∀ e ∈ z, badE e = 0) (k : List UInt8) (out : List Ev) : oneM x y z k out = oneM x z y k out := by
  unfold oneM
  rw [show pkT x z y k = pkT x y z k from (pick_swap _ _ _).symm]
  split
  · rfl
  · by_cases hn : txt k x = nilB ∨ txt k y = nilB ∨ txt k z = nilB
    · have hn' : txt k x = nilB ∨ txt k z = nilB ∨ txt k y = nilB := by
        rcases hn with h | h | h
        · exact .inl h
        · exact .inr (.inr h)
        · exact .inr (.inl h)
      rw [if_pos hn, if_pos hn']
    · have hn' : ¬ (txt k x = nilB ∨ txt k z = nilB ∨ txt k y = nilB) := by
        rintro (h | h | h)
        · exact hn (.inl h)
        · exact hn (.inr (.inr h))
        · exact hn (.inr (.inl h))
      rw [if_neg hn, if_neg hn']
      have ky : hasK k y = true := by
        cases h : hasK k y with
        | true => rfl
        | false => exact absurd (.inr (.inl (txt_nil.2 h))) hn
      have kz : hasK k z = true := by
        cases h : hasK k z with
        | true => rfl
        | false => exact absurd (.inr (.inr (txt_nil.2 h))) hn
      obtain ⟨my, ey⟩ := foundE_has ky
      obtain ⟨mz, ez⟩ := foundE_has kz
      have hid : (foundE k y).id = (foundE k z).id := by
        have : (foundE k y).id.data.toList = (foundE k z).id.data.toList := ey.trans ez.symm
        rw [str_mk (foundE k y).id, str_mk (foundE k z).id, this]
      obtain ⟨h1, h2⟩ := mix_swap (x := foundE k x) (hy _ my) (hz _ mz) hid
      rw [← h1]
      by_cases h3 : mixB (foundE k x) (foundE k y) (foundE k z) ≠ []
      · rw [if_pos h3, if_pos h3]
      · rw [if_neg h3, if_neg h3, h2 (Decidable.not_not.1 h3)]
theorem three_swap {x y z : List Ev} (hy : ∀ e ∈ y, badE e = 0) (hz : ∀ e ∈ z, badE e = 0) : ∀ (U : List ByteArray) (out : List Ev) (bad : List (ByteArray × ByteArray)), threeM x y z U out bad = threeM x z y U out bad
  | [], _, _ => rfl
  | id :: U, out, bad => by
    unfold threeM
    rw [one_swap hy hz, three_swap hy hz U]
end Mg
end Go.Proofs.YtghkalamlcfnnaaGreatDoor
