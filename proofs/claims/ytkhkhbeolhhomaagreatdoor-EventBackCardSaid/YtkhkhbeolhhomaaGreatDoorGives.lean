/- What the iterator of all days gives, by name. -/
import Derived.Test.YtkhkhbeolhhomaaGreatDoorAllSeq
namespace Go.Proofs.YtkhkhbeolhhomaaGreatDoor
open Go Go.RowKit Go.Shelf Lmd
attribute [local go_sem] Oper.semAt_some
namespace Cand
open Rul Day Er

/-- what the iterator of all days gives -/
def Gives (start : Int) (r : Ru) (v : Value) (l : List Int) (w : World) : Prop :=
  ∀ (W0 : World) (br bs : Nat), Below w.heap.size w W0 → Boxes W0 br bs start r v → Rng.Seq Tryz.prog 154 (la br bs) (fun x : Int => #[.int .i64 x]) (Apart (3 + 1) br bs v) (fun xs => xs = l) (fun pre => pre <+: l) 100000 W0

theorem gives_all (start y m d : Int) (r : Ru) (v : Value) (e : Nat → Addr) (w : World) (he : E4 w e) (hb : bad r = 0) (hl : r.ds.length < 50000) (ha : Cal.At start y m d) : Gives start r v (daysOf r.ct r.un (cands start y m d r)) w :=
  fun W0 br bs hW hB => all_seq (3 + 1) br bs start y m d r v e W0 hB (he.below hW) hb hl ha (by omega)
theorem Gives.below {start : Int} {r : Ru} {v : Value} {l : List Int} {w w' : World} (h : Gives start r v l w) (hb : Below w.heap.size w w') : Gives start r v l w' :=
  fun W0 br bs hW hB => h W0 br bs (hb.trans (hW.mono hb.size)) hB

end Cand
end Go.Proofs.YtkhkhbeolhhomaaGreatDoor
