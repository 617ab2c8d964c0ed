/- TopMeanings: the law, whole. -/
import Derived.Test.YtekkapgknohadaaGreatDoorM41
import Derived.Test.YtekkapgknohadaaGreatDoorM17
set_option linter.unusedVariables false
set_option linter.unusedSimpArgs false
open Go.Proofs.Tryz
namespace Go.Proofs.YtekkapgknohadaaGreatDoor
namespace Nf
open Go.RowKit Go.Shelf
theorem mean_walk (d:Po) (L:Lp) (A:Option Addr) (c:Nat) (S:List Sm) (w:World) (hP:PolM w d L) (hS:Schs w A S) (hc:S.length≤c) (hL:LBd d) (hG:Glob w) :
 Calls prog 4 #[polV d L,.slice A S.length c] w fun e w'=>e=.returned (.bool true)∧Below w.heap.size w w' :=
 tmean_any d L A c S w hP hS hc hL fun W hb=>ex_any W (hG.up hb)
end Nf
end Go.Proofs.YtekkapgknohadaaGreatDoor
