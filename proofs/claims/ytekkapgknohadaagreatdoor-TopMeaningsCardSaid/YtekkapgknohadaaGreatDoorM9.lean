/- The parser's reader: policy, the walk. Printed by mkpbm.py. Under way. -/
import Derived.Test.YtekkapgknohadaaGreatDoorM8
set_option linter.unusedVariables false
open Go.Proofs.Tryz
namespace Go.Proofs.YtekkapgknohadaaGreatDoor
section
open Go.RowKit Go.Shelf
attribute [local go_sem] tf0 tf1 tf2
abbrev zPl:List Value:=[.string ⟨#[]⟩,.slice none 0 0,.slice none 0 0,.slice none 0 0,.int .i64 0,.string ⟨#[]⟩,.int .i64 0,.string ⟨#[]⟩]
def POut (R:PR) (W:World) (r:Pa.Rd Pa.Pl) (e:Ending) (w':World):Prop :=
 match r.1 with
 | none=>e=panP (Pa.atT r.2)∧Hp [R.gp,R.gt] W [ipr R r.2] w'
 | some p=>∃vu vr vn P,P.map Prod.fst=p.root.num 0∧e=.returned (.agg (plc p.name vu vr vn p.scope p.limit p.escrow).toArray)∧Hp [R.gp,R.gt] W (ipr R r.2::iuses vu p.uses::irefs vr p.reveal::inodes vn P::krows P) w'
theorem perm_fin {α:Type} (a b c d e f:α) (T K:List α):([a,b,c,d,e]++(f::(T++K))).Perm ((a::d::e::f::K)++([b,c]++T)):=by
 refine List.Perm.cons a ?_;refine(List.perm_append_comm (l₁:=[b,c]) (l₂:=d::e::f::(T++K))).trans ?_;refine List.Perm.cons d (List.Perm.cons e (List.Perm.cons f ?_));refine(List.perm_append_comm (l₁:=T) (l₂:=K)).append_right [b,c] |>.trans ?_;rw[List.append_assoc];exact(List.perm_append_comm (l₁:=T) (l₂:=[b,c])).append_left K
abbrev plb (bO:Nat) (nm:Pa.Tx) (uv rv:Value) (sc:Pa.Tx) (lim:Int) (esc:Pa.Tx):It:=iblk bO 29 (plc nm uv rv (.slice none 0 0) sc lim esc)
theorem new2p (w:World) (t:TypeId) (a b:Value):∀(j:Nat) u,[a,b][j]? =some u→(w.alloc (.cells #[a,b] t)).cell? ((⟨w.heap.size,0,none⟩:Addr).add j)=some u:=by
 intro j u hu;have e:(⟨w.heap.size,0,none⟩:Addr).add j=⟨w.heap.size,j,none⟩:=by unfold Addr.add;split<;>simp_all
 rw[e,(show Blk (w.alloc (.cells #[a,b] t)) w.heap.size t [a,b]from Blk.new w t [a,b]).cell j];exact hu
theorem perm_in3 {α:Type} (r a b c:α) (l:List α):(r::a::b::c::l).Perm (a::b::c::r::l):=(List.perm_middle (l₁:=[a,b,c])).symm
end
end Go.Proofs.YtekkapgknohadaaGreatDoor
