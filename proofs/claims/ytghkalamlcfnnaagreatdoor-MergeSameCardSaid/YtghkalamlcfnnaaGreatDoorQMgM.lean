/- Three calendars made one, in plain Lean: days and moves one by one; where nothing clashes. -/
import Derived.Test.YtghkalamlcfnnaaGreatDoorQMgL
import Derived.Test.YtghkalamlcfnnaaGreatDoorQC3
namespace Go.Proofs.YtghkalamlcfnnaaGreatDoor
open Go Go.RowKit Lmd
namespace Mg
open Evt Bk Df Rul Day Cand Er Tp
open Txs (kids uniq_nodup)
def staysD (x y z : List Int) (d : Int) : Bool := y.contains d && z.contains d || !x.contains d && (y.contains d || z.contains d)
theorem stays_pick (x y z : Bool) : (y && z || !x && (y || z)) = (pickG x y z).1 := by cases x <;> cases y <;> cases z <;> decide
theorem sk_filter (x y z : List Int) : skM x y z = (Lmd.Cpt.uniq (x ++ y ++ z)).filter (staysD x y z) := by
  unfold skM
  congr 1
  funext d
  exact (stays_pick _ _ _).symm
theorem sk_rise (x y z : List Int) : (skM x y z).Pairwise (· < ·) := (Lmd.Cpt.uniq_rise _).sublist List.filter_sublist
theorem sk_mem {x y z : List Int} {d : Int} : d ∈ skM x y z ↔ d ∈ x ++ y ++ z ∧ staysD x y z d = true := by
  rw [sk_filter, List.mem_filter, Lmd.Cpt.uniq_mem]
def fromsU (x y z : List (Int × Int)) : List Int := Lmd.Cpt.uniq (froms x ++ froms y ++ froms z)
theorem fu_rise (x y z : List (Int × Int)) : (fromsU x y z).Pairwise (· < ·) := Lmd.Cpt.uniq_rise _
theorem fu_mem {x y z : List (Int × Int)} {d : Int} : d ∈ fromsU x y z ↔ d ∈ froms x ++ froms y ++ froms z := Lmd.Cpt.uniq_mem _ _
theorem readE_txt {L : List Ev} (h : ∀ e ∈ L, badE e = 0) {k : List UInt8} (hk : txt k L ≠ nilB) : evAt k L = some (readE (txt k L)) ∧ readC (txt k L) = 0 := by
  have h1 : hasK k L = true := by
    cases hh : hasK k L with
    | true => rfl
    | false => exact absurd (txt_nil.2 hh) hk
  obtain ⟨h2, h3⟩ := txt_read h h1
  exact ⟨by rw [at_found h1, h3], h2⟩
theorem put_room {T out : List Ev} (hT : Df.Good T) (ho : Df.Good out) (hs : ∀ k e, evAt k out = some e → evAt k T = some e) {e : Ev} (he : e ∈ T) (hn : evAt (key e) out = none) : putK e out = 0 := by
  have hb := hT.good e he
  unfold putK
  rw [if_neg (by omega), if_neg]
  rintro ⟨-, h60⟩
  have hsub : (key e :: out.map key) ⊆ T.map key := by
    intro k hk
    rcases List.mem_cons.1 hk with rfl | hk
    · exact List.mem_map_of_mem he
    · obtain ⟨x, hx, rfl⟩ := List.mem_map.1 hk
      have := (at_mem hT.asc).1 (hs _ x ((at_mem ho.asc).2 ⟨hx, rfl⟩))
      exact List.mem_map_of_mem this.1
  have hnd : (key e :: out.map key).Nodup := by
    refine List.nodup_cons.2 ⟨fun hk => ?_, asc_nodup ho.asc⟩
    obtain ⟨x, hx, hxe⟩ := List.mem_map.1 hk
    have := (at_mem ho.asc).2 ⟨hx, hxe⟩
    rw [hn] at this; cases this
  have := hnd.length_le_of_subset hsub
  simp only [List.length_cons, List.length_map] at this
  have := hT.few
  omega
theorem three_same {x y z T : List Ev} (hT : Df.Good T) : ∀ (U : List ByteArray) (out : List Ev) (bad : List (ByteArray × ByteArray)), U.Nodup → Df.Good out → (∀ k e, evAt k out = some e → evAt k T = some e) → (∀ id ∈ U, evAt id.data.toList out = none) → (∀ id ∈ U, pkT x y z id.data.toList = (txt id.data.toList T, true)) →
    ∃ out', threeM x y z U out bad = (out', bad) ∧ Df.Good out' ∧ (∀ k, k ∉ U.map (·.data.toList) → evAt k out' = evAt k out) ∧ (∀ id ∈ U, evAt id.data.toList out' = evAt id.data.toList T)
  | [], out, bad, _, ho, _, _, _ => ⟨out, rfl, ho, fun _ _ => rfl, fun _ h => by cases h⟩
  | id :: U, out, bad, hn, ho, hs, hnew, hp => by
    obtain ⟨n1, n2⟩ := List.nodup_cons.1 hn
    have hne : ∀ id' ∈ U, id'.data.toList ≠ id.data.toList := fun id' h e => n1 (by rw [show id = id' from by rw [str_mk id, str_mk id', e]]; exact h)
    have hp1 := hp id (List.mem_cons_self ..)
    have h0 := hnew id (List.mem_cons_self ..)
    have hone : ∃ o1, oneM x y z id.data.toList out = ([], o1) ∧ Df.Good o1 ∧ (∀ k, k ≠ id.data.toList → evAt k o1 = evAt k out) ∧ evAt id.data.toList o1 = evAt id.data.toList T := by
      unfold oneM
      rw [hp1, if_pos rfl]
      dsimp only
      by_cases h2 : txt id.data.toList T = nilB
      · rw [if_pos h2]
        exact ⟨out, rfl, ho, fun _ _ => rfl, by rw [h0, at_none.2 (txt_nil.1 h2)]⟩
      · rw [if_neg h2]
        obtain ⟨he, hc⟩ := readE_txt hT.good h2
        obtain ⟨hm, hk⟩ := (at_mem hT.asc).1 he
        have hpk := put_room hT ho hs hm (by rw [hk]; exact h0)
        rw [if_neg (by rw [hpk]; simp)]
        refine ⟨_, rfl, ho.with hpk, fun k hkne => ?_, ?_⟩
        · rw [at_with ho.asc, hk, if_neg hkne]
        · rw [at_with ho.asc, hk, if_pos rfl, he]
    obtain ⟨o1, e1, g1, g2, g3⟩ := hone
    unfold threeM
    rw [e1]
    dsimp only
    rw [List.map_nil, List.append_nil]
    have hnotU : id.data.toList ∉ U.map (·.data.toList) := fun h => by
      obtain ⟨i2, hi, e⟩ := List.mem_map.1 h
      exact hne i2 hi e
    obtain ⟨o2, e2, q1, q2, q3⟩ := three_same hT U o1 bad n2 g1 (fun k e he => by
      by_cases hk : k = id.data.toList
      · rw [hk] at he ⊢; rw [← g3]; exact he
      · rw [g2 k hk] at he; exact hs k e he) (fun i2 hi => by rw [g2 _ (hne i2 hi)]; exact hnew i2 (List.mem_cons_of_mem _ hi)) (fun i2 hi => hp i2 (List.mem_cons_of_mem _ hi))
    refine ⟨o2, e2, q1, fun k hk => ?_, fun i2 hi => ?_⟩
    · rw [q2 k (fun h => hk (by rw [List.map_cons]; exact List.mem_cons_of_mem _ h)), g2 k (fun e => hk (by rw [e, List.map_cons]; exact List.mem_cons_self ..))]
    · rcases List.mem_cons.1 hi with rfl | hi
      · rw [q2 _ hnotU]; exact g3
      · exact q3 i2 hi
def ids3 (x y z : List Ev) : List ByteArray := (Lmd.Cps.uniq (kids x ++ kids y ++ kids z)).map mk
theorem ids3_mem {x y z : List Ev} {id : ByteArray} : id ∈ ids3 x y z ↔ hasK id.data.toList x = true ∨ hasK id.data.toList y = true ∨ hasK id.data.toList z = true := by
  unfold ids3
  rw [List.mem_map]
  have hm : ∀ k, k ∈ Lmd.Cps.uniq (kids x ++ kids y ++ kids z) ↔ hasK k x = true ∨ hasK k y = true ∨ hasK k z = true := fun k => by
    rw [Lmd.Cps.uniq_mem, List.mem_append, List.mem_append, mem_kids, mem_kids, mem_kids, or_assoc]
  constructor
  · rintro ⟨k, h, rfl⟩; exact (hm k).1 h
  · intro h; exact ⟨_, (hm _).2 h, (str_mk id).symm⟩
theorem ids3_nodup (x y z : List Ev) : (ids3 x y z).Nodup := List.pairwise_map.2 ((uniq_nodup _).imp fun {x y} (h : x ≠ y) (e : mk x = mk y) => h (mk_inj e))
theorem ids3_len (x y z : List Ev) : (ids3 x y z).length ≤ x.length + y.length + z.length := by
  unfold ids3 Lmd.Cps.uniq
  rw [List.length_map]
  refine Nat.le_trans (Txs.compact_len _) ?_
  rw [Txs.sort_len, List.length_append, List.length_append]
  simp [kids]
noncomputable def mergeM (x y z : List Ev) : List Ev × List (ByteArray × ByteArray) := threeM x y z (ids3 x y z) [] []
theorem good_nil : Df.Good [] := ⟨List.Pairwise.nil, (fun _ h => absurd h List.not_mem_nil), Nat.zero_le _⟩
theorem rise_extT {a b : List (List UInt8)} (ha : a.Pairwise (· < ·)) (hb : b.Pairwise (· < ·)) (h : ∀ x, x ∈ a ↔ x ∈ b) : a = b := by
  have n1 : a.Nodup := ha.imp fun {a b} (h : a < b) (e : a = b) => List.lt_irrefl b (by rw [e] at h; exact h)
  have n2 : b.Nodup := hb.imp fun {a b} (h : a < b) (e : a = b) => List.lt_irrefl b (by rw [e] at h; exact h)
  exact List.Perm.eq_of_pairwise (le := fun x y : List UInt8 => x < y) (fun _ _ _ _ h1 h2 => absurd h2 (List.lt_asymm h1)) ha hb ((List.perm_ext_iff_of_nodup n1 n2).2 h)
theorem ids3_swap (x y z : List Ev) : ids3 x y z = ids3 x z y := by
  unfold ids3
  congr 1
  refine rise_extT (Lmd.Cps.uniq_rise _) (Lmd.Cps.uniq_rise _) fun d => ?_
  rw [Lmd.Cps.uniq_mem, Lmd.Cps.uniq_mem]
  simp only [List.mem_append]
  constructor
  · rintro ((h | h) | h)
    · exact .inl (.inl h)
    · exact .inr h
    · exact .inl (.inr h)
  · rintro ((h | h) | h)
    · exact .inl (.inl h)
    · exact .inr h
    · exact .inl (.inr h)
theorem merge_swap {x y z : List Ev} (hy : Df.Good y) (hz : Df.Good z) : mergeM x y z = mergeM x z y := by
  unfold mergeM
  rw [ids3_swap, three_swap hy.good hz.good]
theorem merge_to {x y z T : List Ev} (hT : Df.Good T) (hU : ∀ k, hasK k T = true → hasK k x = true ∨ hasK k y = true ∨ hasK k z = true) (hp : ∀ k, pkT x y z k = (txt k T, true)) : mergeM x y z = (T, []) := by
  obtain ⟨o, e, g, h1, h2⟩ := three_same hT (ids3 x y z) [] [] (ids3_nodup x y z) good_nil (fun k e h => by cases h) (fun _ _ => rfl) (fun id _ => hp _)
  unfold mergeM
  rw [e, at_ext g.asc hT.asc fun k => ?_]
  by_cases hk : k ∈ (ids3 x y z).map (·.data.toList)
  · obtain ⟨id, hid, rfl⟩ := List.mem_map.1 hk
    exact h2 id hid
  · rw [h1 k hk]
    cases hh : hasK k T with
    | false => rw [at_none.2 hh]; rfl
    | true =>
      exfalso
      refine hk (List.mem_map.2 ⟨mk k, ids3_mem.2 ?_, rfl⟩)
      exact hU k hh
theorem merge_same {x y : List Ev} (hy : Df.Good y) : mergeM x y y = (y, []) := merge_to hy (fun _ h => .inr (.inl h)) fun _ => pick_same _ _
theorem merge_left {x y : List Ev} (hy : Df.Good y) : mergeM x y x = (y, []) := merge_to hy (fun _ h => .inr (.inl h)) fun _ => pick_left _ _
theorem merge_right {x y : List Ev} (hy : Df.Good y) : mergeM x x y = (y, []) := merge_to hy (fun _ h => .inr (.inr h)) fun _ => pick_right _ _
end Mg
end Go.Proofs.YtghkalamlcfnnaaGreatDoor
