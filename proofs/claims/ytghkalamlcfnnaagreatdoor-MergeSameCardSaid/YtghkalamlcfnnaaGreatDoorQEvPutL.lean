/- package event in plain Lean: a field's text put; an event's text; each is read as it was written. -/
import Derived.Test.YtghkalamlcfnnaaGreatDoorQEvReadM
import Derived.Test.YtghkalamlcfnnaaGreatDoorQA14
namespace Go.Proofs.YtghkalamlcfnnaaGreatDoor
open Go Go.RowKit Go.Shelf Lmd
namespace Evt
open Rul Day Cand Er
def lgOk (l : List UInt8) : Bool := match Lib.atoiAll l with | .ok v => decide (l.length ≤ 9) && decide (Lib.itoa v = l) | _ => false
def putC (f s : ByteArray) : Nat :=
  if f.toList = [116, 105, 116, 108, 101] then 0 else if f.toList = [115, 116, 97, 114, 116] then dayC s.data.toList else if f.toList = [108, 111, 110, 103] then (if lgOk s.data.toList = true then 0 else 1)
  else if f.toList = [114, 117, 108, 101] then (readS s).1 else if f.toList = [115, 107, 105, 112, 115] then skC (listP s) else if f.toList = [109, 111, 118, 101, 115] then mvC (listP s) else 4
def putE (e : Ev) (f s : ByteArray) : Ev :=
  if f.toList = [116, 105, 116, 108, 101] then { e with ti := s } else if f.toList = [115, 116, 97, 114, 116] then { e with st := dayX s.data.toList } else if f.toList = [108, 111, 110, 103] then { e with lg := numIs s.data.toList }
  else if f.toList = [114, 117, 108, 101] then { e with ru := (readS s).2 } else if f.toList = [115, 107, 105, 112, 115] then { e with sk := skV (listP s) } else if f.toList = [109, 111, 118, 101, 115] then { e with mv := mvV (listP s) } else e
def takeE (f : ByteArray) (b e : Ev) : Ev :=
  if f.toList = [116, 105, 116, 108, 101] then { e with ti := b.ti } else if f.toList = [115, 116, 97, 114, 116] then { e with st := b.st } else if f.toList = [108, 111, 110, 103] then { e with lg := b.lg }
  else if f.toList = [114, 117, 108, 101] then { e with ru := b.ru } else if f.toList = [115, 107, 105, 112, 115] then { e with sk := b.sk } else if f.toList = [109, 111, 118, 101, 115] then { e with mv := b.mv } else e
def zeroEv : Ev := { id := ⟨#[]⟩, ti := ⟨#[]⟩, st := 0, lg := 0, ru := zeroRu, sk := [], mv := [] }
def setC (e : Ev) (f s : ByteArray) : Nat := if putC f s ≠ 0 then putC f s else badE (putE e f s)
def setE (e : Ev) (f s : ByteArray) : Ev := if setC e f s = 0 then putE e f s else zeroEv
abbrev fAt (k : Nat) : ByteArray := fieldL.getD k ByteArray.empty
abbrev lAt (L : List ByteArray) (k : Nat) : ByteArray := L.getD k ByteArray.empty
def evK (L : List ByteArray) : Nat → Ev
  | 0 => { zeroEv with id := lAt L 0 }
  | k + 1 => putE (evK L k) (fAt k) (lAt L (k + 1))
def badK (L : List ByteArray) : Nat → Nat → Nat
  | _, 0 => badE (evK L 6)
  | k, n + 1 => if putC (fAt k) (lAt L (k + 1)) ≠ 0 then putC (fAt k) (lAt L (k + 1)) else badK L (k + 1) n
def readLC (L : List ByteArray) : Nat := if L.length = 7 then badK L 0 6 else 1
def readLE (L : List ByteArray) : Ev := if readLC L = 0 then evK L 6 else zeroEv
def readC (s : ByteArray) : Nat := readLC (pieces 124 s)
def readE (s : ByteArray) : Ev := readLE (pieces 124 s)
theorem badK_hit {L : List ByteArray} : ∀ {n k : Nat}, (∀ j, k ≤ j → j < k + n → putC (fAt j) (lAt L (j + 1)) = 0) → badK L k n = badE (evK L 6)
  | 0, k, _ => rfl
  | n + 1, k, h => by
    unfold badK
    rw [if_neg (by rw [h k (Nat.le_refl _) (by omega)]; simp)]
    exact badK_hit fun j h1 h2 => h j (by omega) (by omega)
theorem badK_miss {L : List ByteArray} {j : Nat} (hj : putC (fAt j) (lAt L (j + 1)) ≠ 0) : ∀ {n k : Nat}, k ≤ j → j < k + n → (∀ i, k ≤ i → i < j → putC (fAt i) (lAt L (i + 1)) = 0) → badK L k n = putC (fAt j) (lAt L (j + 1))
  | 0, k, h1, h2, _ => by omega
  | n + 1, k, h1, h2, h => by
    unfold badK
    by_cases e : k = j
    · subst e; rw [if_pos hj]
    · rw [if_neg (by rw [h k (Nat.le_refl _) (by omega)]; simp)]
      exact badK_miss hj (by omega) (by omega) fun i a b => h i (by omega) b
theorem dayL_free {n : Int} {c : UInt8} (hc : ¬ (45 ≤ c.toNat ∧ c.toNat ≤ 57)) : c ∉ dayL n := by
  unfold dayL
  split
  · rename_i h
    obtain ⟨y, m, d, ha⟩ := Cal.at_exists n h.1 h.2
    rw [dayT_at ha]
    have hr := Cal.ok_range ha.1
    have hdg : ∀ k : Int, 0 ≤ k → k ≤ 9 → c ≠ Cal.dg k := fun k a b e => by
      have := Cal.dg_nat k a b
      rw [← e] at this
      omega
    have h45 : c ≠ 45 := fun e => hc (by rw [e]; decide)
    unfold Cal.text Cal.fourT Cal.twoT
    simp only [List.mem_cons, List.not_mem_nil, or_false, List.cons_append, List.nil_append, not_or]
    refine ⟨?_, ?_, ?_, ?_, h45, ?_, ?_, h45, ?_, ?_⟩ <;> exact hdg _ (by omega) (by omega)
  · simp
theorem dayL_back {n : Int} (h : rightB n = true) : dayC (dayL n) = 0 ∧ dayX (dayL n) = n ∧ dayL n ≠ [] := by
  have h2 : 0 ≤ n ∧ n ≤ 73048 := by unfold rightB inB at h; exact of_decide_eq_true h
  obtain ⟨y, m, d, ha⟩ := Cal.at_exists n h2.1 h2.2
  have h3 := day_back ha
  unfold dayL
  rw [if_pos h2, dayT_at ha]
  exact ⟨h3.1, h3.2.1, fun e => by have := Cal.text_length y m d; rw [e] at this; cases this⟩
theorem listP_nil : listP (mk []) = [] := by unfold listP; rw [if_pos (toList_mk [])]
theorem skips_back {sk : List Int} (h : sk.all rightB = true) : skC (listP (mk (skipsL sk))) = 0 ∧ skV (listP (mk (skipsL sk))) = sk := by
  cases sk with
  | nil =>
    rw [show skipsL [] = [] from rfl, listP_nil]
    exact ⟨rfl, rfl⟩
  | cons d ds =>
    rw [List.all_eq_true] at h
    have hL : skipsL (d :: ds) = Lib.join ((d :: ds).map dayL) [44] := by unfold skipsL; rw [List.map_map]; rfl
    have hp : pieces 44 (mk (skipsL (d :: ds))) = ((d :: ds).map dayL).map mk := by
      rw [hL, List.map_cons]
      refine (pieces_join ?_).trans rfl
      intro y hy
      rw [← List.map_cons] at hy
      obtain ⟨z, _, rfl⟩ := List.mem_map.1 hy
      exact dayL_free (by decide)
    have hne : (mk (skipsL (d :: ds))).toList ≠ [] := by
      rw [toList_mk, hL, List.map_cons, Lib.join_cons]
      intro e
      exact (dayL_back (h d (by simp))).2.2 (List.append_eq_nil_iff.1 e).1
    have hl : listP (mk (skipsL (d :: ds))) = ((d :: ds).map dayL).map mk := by unfold listP; rw [if_neg hne]; exact hp
    rw [hl]
    refine ⟨skC_ok ?_, ?_⟩
    · intro x hx
      obtain ⟨y, hy, rfl⟩ := List.mem_map.1 hx
      obtain ⟨z, hz, rfl⟩ := List.mem_map.1 hy
      exact (dayL_back (h z hz)).1
    · unfold skV
      rw [List.map_map, List.map_map]
      refine (List.map_congr_left (g := id) fun z hz => ?_).trans (List.map_id _)
      exact (dayL_back (h z hz)).2.1
theorem moveS_back {m : Int × Int} (h : (rightB m.1 && rightB m.2) = true) : mvC1 (moveS m) = 0 ∧ mvV1 (moveS m) = m := by
  rw [Bool.and_eq_true] at h
  have hc : Lib.cut (moveS m).data.toList [62] = (dayL m.1, dayL m.2, true) := by
    have e : (moveS m).data.toList = dayL m.1 ++ 62 :: dayL m.2 := by
      unfold moveS
      rw [mk_list]; simp
    rw [e]
    exact Tp.cut_hit (dayL_free (by decide))
  have h1 := dayL_back h.1
  have h2 := dayL_back h.2
  unfold mvC1 mvV1 mvA mvB
  rw [hc]
  simp only [h1.1, h1.2.1, h2.1, h2.2.1]
  simp
theorem moves_back {mv : List (Int × Int)} (h : (mv.all fun m => rightB m.1 && rightB m.2) = true) : mvC (listP (mk (movesL mv))) = 0 ∧ mvV (listP (mk (movesL mv))) = mv := by
  cases mv with
  | nil =>
    rw [show movesL [] = [] from rfl, listP_nil]
    exact ⟨rfl, rfl⟩
  | cons d ds =>
    rw [List.all_eq_true] at h
    have hL : movesL (d :: ds) = Lib.join ((d :: ds).map fun m => (moveS m).data.toList) [44] := by unfold movesL; rw [List.map_map]; rfl
    have hp : pieces 44 (mk (movesL (d :: ds))) = ((d :: ds).map fun m => (moveS m).data.toList).map mk := by
      rw [hL, List.map_cons]
      refine (pieces_join ?_).trans rfl
      intro y hy
      rw [← List.map_cons (f := fun m : Int × Int => (moveS m).data.toList)] at hy
      obtain ⟨z, _, rfl⟩ := List.mem_map.1 hy
      show (44 : UInt8) ∉ dayL z.1 ++ [62] ++ dayL z.2
      simp only [List.mem_append, not_or]
      exact ⟨⟨dayL_free (by decide), by decide⟩, dayL_free (by decide)⟩
    have hne : (mk (movesL (d :: ds))).toList ≠ [] := by
      rw [toList_mk, hL, List.map_cons, Lib.join_cons]
      intro e
      have e2 := (List.append_eq_nil_iff.1 e).1
      have e3 : dayL d.1 ++ [62] ++ dayL d.2 = [] := e2
      simp at e3
    have hl : listP (mk (movesL (d :: ds))) = (d :: ds).map moveS := by
      unfold listP; rw [if_neg hne, hp, List.map_map]
      refine List.map_congr_left fun z _ => ?_
      exact (str_mk _).symm
    rw [hl]
    refine ⟨mvC_ok ?_, ?_⟩
    · intro x hx
      obtain ⟨z, hz, rfl⟩ := List.mem_map.1 hx
      exact (moveS_back (h z hz)).1
    · unfold mvV
      rw [List.map_map]
      refine (List.map_congr_left (g := id) fun z hz => ?_).trans (List.map_id _)
      exact (moveS_back (h z hz)).2
theorem lg_back {n : Int} (h : 1 ≤ n ∧ n ≤ 60) : lgOk (Lib.itoa n) = true ∧ numIs (Lib.itoa n) = n := by
  obtain ⟨h1, h2⟩ := num_back n (by omega) (by omega)
  refine ⟨?_, h2⟩
  unfold lgOk
  unfold numOk at h1
  split at h1
  · rename_i v hv
    rw [hv]
    simp only [Bool.and_eq_true] at h1 ⊢
    exact ⟨h1.1.1, h1.2⟩
  · cases h1
theorem tlT : fTitle.toList = [116, 105, 116, 108, 101] := toList_mk [116, 105, 116, 108, 101]
theorem tlS : fStart.toList = [115, 116, 97, 114, 116] := toList_mk [115, 116, 97, 114, 116]
theorem tlL : fLong.toList = [108, 111, 110, 103] := toList_mk [108, 111, 110, 103]
theorem tlR : fRule.toList = [114, 117, 108, 101] := toList_mk [114, 117, 108, 101]
theorem tlK : fSkips.toList = [115, 107, 105, 112, 115] := toList_mk [115, 107, 105, 112, 115]
theorem tlM : fMoves.toList = [109, 111, 118, 101, 115] := toList_mk [109, 111, 118, 101, 115]
theorem takeT (b e : Ev) : takeE fTitle b e = { e with ti := b.ti } := by unfold takeE; rw [if_pos tlT]
theorem putET (e : Ev) (s : ByteArray) : putE e fTitle s = { e with ti := s } := by unfold putE; rw [if_pos tlT]
theorem putCT (s : ByteArray) : putC fTitle s = 0 := by unfold putC; rw [if_pos tlT]
theorem getT (y : Ev) : getL y fTitle = y.ti := by unfold getL; rw [if_pos tlT]
theorem takeS (b e : Ev) : takeE fStart b e = { e with st := b.st } := by unfold takeE; rw [if_neg (by rw [tlS]; decide), if_pos tlS]
theorem putES (e : Ev) (s : ByteArray) : putE e fStart s = { e with st := dayX s.data.toList } := by unfold putE; rw [if_neg (by rw [tlS]; decide), if_pos tlS]
theorem putCS (s : ByteArray) : putC fStart s = dayC s.data.toList := by unfold putC; rw [if_neg (by rw [tlS]; decide), if_pos tlS]
theorem getS (y : Ev) : getL y fStart = dayS y.st := by unfold getL; rw [if_neg (by rw [tlS]; decide), if_pos tlS]
theorem takeL (b e : Ev) : takeE fLong b e = { e with lg := b.lg } := by unfold takeE; rw [if_neg (by rw [tlL]; decide), if_neg (by rw [tlL]; decide), if_pos tlL]
theorem putEL (e : Ev) (s : ByteArray) : putE e fLong s = { e with lg := numIs s.data.toList } := by unfold putE; rw [if_neg (by rw [tlL]; decide), if_neg (by rw [tlL]; decide), if_pos tlL]
theorem putCL (s : ByteArray) : putC fLong s = (if lgOk s.data.toList = true then 0 else 1) := by unfold putC; rw [if_neg (by rw [tlL]; decide), if_neg (by rw [tlL]; decide), if_pos tlL]
theorem getL' (y : Ev) : getL y fLong = mk (Lib.itoa y.lg) := by unfold getL; rw [if_neg (by rw [tlL]; decide), if_neg (by rw [tlL]; decide), if_pos tlL]
theorem takeR (b e : Ev) : takeE fRule b e = { e with ru := b.ru } := by unfold takeE; rw [if_neg (by rw [tlR]; decide), if_neg (by rw [tlR]; decide), if_neg (by rw [tlR]; decide), if_pos tlR]
theorem putER (e : Ev) (s : ByteArray) : putE e fRule s = { e with ru := (readS s).2 } := by unfold putE; rw [if_neg (by rw [tlR]; decide), if_neg (by rw [tlR]; decide), if_neg (by rw [tlR]; decide), if_pos tlR]
theorem putCR (s : ByteArray) : putC fRule s = (readS s).1 := by unfold putC; rw [if_neg (by rw [tlR]; decide), if_neg (by rw [tlR]; decide), if_neg (by rw [tlR]; decide), if_pos tlR]
theorem getR (y : Ev) : getL y fRule = (if bad y.ru = 0 then mk (textL y.ru) else ⟨#[]⟩) := by unfold getL; rw [if_neg (by rw [tlR]; decide), if_neg (by rw [tlR]; decide), if_neg (by rw [tlR]; decide), if_pos tlR]
theorem takeK (b e : Ev) : takeE fSkips b e = { e with sk := b.sk } := by unfold takeE; rw [if_neg (by rw [tlK]; decide), if_neg (by rw [tlK]; decide), if_neg (by rw [tlK]; decide), if_neg (by rw [tlK]; decide), if_pos tlK]
theorem putEK (e : Ev) (s : ByteArray) : putE e fSkips s = { e with sk := skV (listP s) } := by unfold putE; rw [if_neg (by rw [tlK]; decide), if_neg (by rw [tlK]; decide), if_neg (by rw [tlK]; decide), if_neg (by rw [tlK]; decide), if_pos tlK]
theorem putCK (s : ByteArray) : putC fSkips s = skC (listP s) := by unfold putC; rw [if_neg (by rw [tlK]; decide), if_neg (by rw [tlK]; decide), if_neg (by rw [tlK]; decide), if_neg (by rw [tlK]; decide), if_pos tlK]
theorem getK (y : Ev) : getL y fSkips = mk (skipsL y.sk) := by unfold getL; rw [if_neg (by rw [tlK]; decide), if_neg (by rw [tlK]; decide), if_neg (by rw [tlK]; decide), if_neg (by rw [tlK]; decide), if_pos tlK]
theorem takeM (b e : Ev) : takeE fMoves b e = { e with mv := b.mv } := by unfold takeE; rw [if_neg (by rw [tlM]; decide), if_neg (by rw [tlM]; decide), if_neg (by rw [tlM]; decide), if_neg (by rw [tlM]; decide), if_neg (by rw [tlM]; decide), if_pos tlM]
theorem putEM (e : Ev) (s : ByteArray) : putE e fMoves s = { e with mv := mvV (listP s) } := by unfold putE; rw [if_neg (by rw [tlM]; decide), if_neg (by rw [tlM]; decide), if_neg (by rw [tlM]; decide), if_neg (by rw [tlM]; decide), if_neg (by rw [tlM]; decide), if_pos tlM]
theorem putCM (s : ByteArray) : putC fMoves s = mvC (listP s) := by unfold putC; rw [if_neg (by rw [tlM]; decide), if_neg (by rw [tlM]; decide), if_neg (by rw [tlM]; decide), if_neg (by rw [tlM]; decide), if_neg (by rw [tlM]; decide), if_pos tlM]
theorem getM (y : Ev) : getL y fMoves = mk (movesL y.mv) := by unfold getL; rw [if_neg (by rw [tlM]; decide), if_neg (by rw [tlM]; decide), if_neg (by rw [tlM]; decide), if_neg (by rw [tlM]; decide), if_neg (by rw [tlM]; decide), if_pos tlM]
theorem put_back {y : Ev} (hy : badE y = 0) {f : ByteArray} (hf : f ∈ fieldL) (x : Ev) : putC f (getL y f) = 0 ∧ putE x f (getL y f) = takeE f y x := by
  obtain ⟨_, _, h3, h4, h5, h6⟩ := badE_zero hy
  obtain ⟨_, _, _, _, h7, h8, _⟩ := badL_zero h6
  have hst := dayL_back (n := y.st) (by unfold rightB inB; exact decide_eq_true h3)
  have hsk := skips_back h7
  have hmv := moves_back h8
  have hlg := lg_back h4
  have hru := read_text y.ru h5
  simp only [fieldL, List.mem_cons, List.not_mem_nil, or_false] at hf
  rcases hf with rfl | rfl | rfl | rfl | rfl | rfl
  · rw [getT, putCT, putET, takeT]; exact ⟨rfl, rfl⟩
  · rw [getS, putCS, putES, takeS]
    refine ⟨hst.1, ?_⟩
    show ({ x with st := dayX (dayL y.st) } : Ev) = _
    rw [hst.2.1]
  · rw [getL', putCL, putEL, takeL]
    refine ⟨if_pos hlg.1, ?_⟩
    show ({ x with lg := numIs (Lib.itoa y.lg) } : Ev) = _
    rw [hlg.2]
  · rw [getR, putCR, putER, takeR, if_pos h5, hru]; exact ⟨rfl, rfl⟩
  · rw [getK, putCK, putEK, takeK, hsk.1, hsk.2]; exact ⟨rfl, rfl⟩
  · rw [getM, putCM, putEM, takeM, hmv.1, hmv.2]; exact ⟨rfl, rfl⟩
theorem take_self {f : ByteArray} (hf : f ∈ fieldL) (x : Ev) : takeE f x x = x := by
  simp only [fieldL, List.mem_cons, List.not_mem_nil, or_false] at hf
  rcases hf with rfl | rfl | rfl | rfl | rfl | rfl
  · rw [takeT]
  · rw [takeS]
  · rw [takeL]
  · rw [takeR]
  · rw [takeK]
  · rw [takeM]
def LowL (l : List UInt8) : Prop := ∀ c ∈ l, c ≠ 124
theorem low_app {a b : List UInt8} (h : LowL a) (k : LowL b) : LowL (a ++ b) := fun c hc => (List.mem_append.1 hc).elim (h c) (k c)
theorem low_free {l : List UInt8} (h : LowL l) : (124 : UInt8) ∉ l := fun hc => h _ hc rfl
theorem low_of {l : List UInt8} (h : (124 : UInt8) ∉ l) : LowL l := fun _ hc e => h (e ▸ hc)
theorem low_join {sep : List UInt8} (hs : LowL sep) : ∀ {xs : List (List UInt8)}, (∀ x ∈ xs, LowL x) → LowL (Lib.join xs sep)
  | [], _ => fun _ hc => by simp [Lib.join] at hc
  | x :: r, h => by
    rw [Lib.join_cons]
    refine low_app (h x (by simp)) fun c hc => ?_
    unfold Lib.joinTail at hc
    obtain ⟨l, hl, hcl⟩ := List.mem_flatten.1 hc
    obtain ⟨y, hy, rfl⟩ := List.mem_map.1 hl
    exact low_app hs (h y (by simp [hy])) c hcl
theorem dayL_low (n : Int) : LowL (dayL n) := low_of (dayL_free (by decide))
theorem itoa_low {n : Int} (h : 0 ≤ n) : LowL (Lib.itoa n) := low_of (itoa_free h (by decide))
theorem rule_low {r : Ru} (h : bad r = 0) : LowL (textL r) := by
  obtain ⟨h1, h2, h3, h4, h5⟩ := bad_parts h
  obtain ⟨⟨e1, e2⟩, ⟨c1, c2⟩, u1, u2⟩ := bound_parts h2
  have hfq : LowL r.fq.data.toList := by
    rcases freqs_mem h1 with e | e | e | e | e <;> rw [e] <;> exact low_of (by decide)
  by_cases ho : r.fq.toList = onceW
  · unfold textL; rw [if_pos ho]; exact hfq
  · rw [text_words r ho]
    refine low_join (low_of (by decide)) fun y hy => ?_
    simp only [List.mem_cons, List.mem_append] at hy
    rcases hy with rfl | rfl | (hy | hy) | hy
    · exact hfq
    · exact itoa_low (by omega)
    · unfold dW at hy
      split at hy
      · simp at hy
      · simp at hy; subst hy
        unfold nms
        refine low_join (low_of (by decide)) fun x hx => ?_
        obtain ⟨nm, hnm, rfl⟩ := List.mem_map.1 hx
        obtain ⟨k, hk, rfl⟩ := List.mem_map.1 hnm
        obtain ⟨k0, k6⟩ := days_ok h3 k hk
        have : k = 0 ∨ k = 1 ∨ k = 2 ∨ k = 3 ∨ k = 4 ∨ k = 5 ∨ k = 6 := by omega
        rcases this with rfl | rfl | rfl | rfl | rfl | rfl | rfl <;> exact low_of (by decide)
    · unfold cW at hy
      split at hy
      · simp at hy
        rcases hy with rfl | rfl
        · exact low_of (by decide)
        · exact itoa_low (by omega)
      · simp at hy
    · unfold uW at hy
      split at hy
      · rename_i hu
        simp at hy
        rcases hy with rfl | rfl
        · exact low_of (by decide)
        · have hd : dayL r.un = dayT r.un := by unfold dayL; rw [if_pos ⟨by omega, by omega⟩]
          rw [← hd]; exact dayL_low _
      · simp at hy
theorem parts_low {e : Ev} (h : badE e = 0) : ∀ y ∈ (partsE e 6).map (·.data.toList), (124 : UInt8) ∉ y := by
  obtain ⟨h1, h2, h3, h4, h5, h6⟩ := badE_zero h
  intro y hy
  refine low_free ?_
  obtain ⟨z, hz, rfl⟩ := List.mem_map.1 hy
  simp only [partsE, List.mem_cons] at hz
  rcases hz with rfl | hz
  · unfold nameB at h1
    rw [Bool.and_eq_true, Bool.and_eq_true, List.all_eq_true] at h1
    intro c hc e
    have := h1.2 c hc
    rw [e] at this
    exact absurd this (by decide)
  · obtain ⟨f, hf, rfl⟩ := List.mem_map.1 hz
    have hf' : f ∈ fieldL := hf
    simp only [fieldL, List.mem_cons, List.not_mem_nil, or_false] at hf'
    rcases hf' with rfl | rfl | rfl | rfl | rfl | rfl
    · rw [getT]
      unfold titleB at h2
      rw [Bool.and_eq_true, List.all_eq_true] at h2
      intro c hc e
      have := h2.2 c hc
      rw [e] at this
      exact absurd this (by decide)
    · rw [getS]; exact dayL_low _
    · rw [getL']; exact itoa_low (by omega)
    · rw [getR, if_pos h5]; exact rule_low h5
    · rw [getK]
      unfold skipsL
      refine low_join (low_of (by decide)) fun x hx => ?_
      obtain ⟨a, ha, rfl⟩ := List.mem_map.1 hx
      obtain ⟨b, _, rfl⟩ := List.mem_map.1 ha
      exact dayL_low _
    · rw [getM]
      unfold movesL
      refine low_join (low_of (by decide)) fun x hx => ?_
      obtain ⟨a, ha, rfl⟩ := List.mem_map.1 hx
      obtain ⟨b, _, rfl⟩ := List.mem_map.1 ha
      exact low_app (low_app (dayL_low _) (low_of (by decide))) (dayL_low _)
theorem pieces_text {e : Ev} (h : badE e = 0) : pieces 124 (mk (textE e)) = partsE e 6 := by
  have hp := parts_low h
  unfold textE
  have e1 : (partsE e 6).map (·.data.toList) = e.id.data.toList :: ((fieldL.take 6).map (getL e)).map (·.data.toList) := rfl
  rw [e1] at hp ⊢
  rw [pieces_join hp, ← e1, List.map_map]
  refine (List.map_congr_left (g := id) fun z _ => ?_).trans (List.map_id _)
  exact (str_mk z).symm
theorem text_back {e : Ev} (h : badE e = 0) : readC (mk (textE e)) = 0 ∧ readE (mk (textE e)) = e := by
  have hx : ∀ k, k < 6 → lAt (partsE e 6) (k + 1) = getL e (fAt k) := fun k hk => by
    have : k = 0 ∨ k = 1 ∨ k = 2 ∨ k = 3 ∨ k = 4 ∨ k = 5 := by omega
    rcases this with rfl | rfl | rfl | rfl | rfl | rfl <;> rfl
  have hm : ∀ k, k < 6 → fAt k ∈ fieldL := fun k hk => by
    have : k = 0 ∨ k = 1 ∨ k = 2 ∨ k = 3 ∨ k = 4 ∨ k = 5 := by omega
    rcases this with rfl | rfl | rfl | rfl | rfl | rfl <;> simp [fAt, fieldL]
  have hs : ∀ k, k < 6 → evK (partsE e 6) (k + 1) = takeE (fAt k) e (evK (partsE e 6) k) := fun k hk => by
    show putE _ (fAt k) (lAt (partsE e 6) (k + 1)) = _
    rw [hx k hk]
    exact (put_back h (hm k hk) _).2
  have h6 : evK (partsE e 6) 6 = e := by
    rw [hs 5 (by omega), hs 4 (by omega), hs 3 (by omega), hs 2 (by omega), hs 1 (by omega), hs 0 (by omega)]
    show takeE fMoves e (takeE fSkips e (takeE fRule e (takeE fLong e (takeE fStart e (takeE fTitle e (evK (partsE e 6) 0)))))) = e
    rw [takeM, takeK, takeR, takeL, takeS, takeT]
    rfl
  have hc : readLC (partsE e 6) = 0 := by
    unfold readLC
    rw [if_pos (parts_len e (Nat.le_refl _)), badK_hit (fun j h1 h2 => by rw [hx j (by omega)]; exact (put_back h (hm j (by omega)) zeroEv).1), h6, h]
  unfold readC readE
  rw [pieces_text h]
  exact ⟨hc, by unfold readLE; rw [if_pos hc, h6]⟩
end Evt
end Go.Proofs.YtghkalamlcfnnaaGreatDoor
