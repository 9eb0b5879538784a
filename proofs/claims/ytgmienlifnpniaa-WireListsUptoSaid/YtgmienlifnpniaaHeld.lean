/- A region that draws, walked by hand: what is held may grow on the way. -/
import Derived.Deep.RegionHeld3
import Derived.Below
namespace Go.Proofs.Ytgmienlifnpniaa
open Go Go.RowKit

theorem wpAnyH_more {P : Program} {ops : Array Oper} {Q : Exit → Act → World → Prop} {md : Region.Mode} {S S' : World → Prop} (himp : ∀ w, S' w → S w) :
    ∀ {fuel : Nat} {listed : Array Bool} {a : Act} {w : World}, wpAnyH P md ops Q S' fuel listed a w → wpAnyH P md ops Q S fuel listed a w
  | 0, _, _, _, h => h
  | _ + 1, _, _, _, h => ⟨h.1, fun i hi => wpOp_mono (fun _ _ h' => ⟨himp _ h'.1, wpAnyH_more himp h'.2⟩) (h.2 i hi)⟩

theorem undrew {w w' : World} (h : Below w.drew.heap.size w.drew w') : Below w.heap.size w w' := ⟨h.os, h.tape, h.output, h.size, h.block⟩

end Go.Proofs.Ytgmienlifnpniaa
