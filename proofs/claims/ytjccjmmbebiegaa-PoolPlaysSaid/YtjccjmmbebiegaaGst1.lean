/-
 The stock's functions on any state: what they answer, in plain data; their contracts, over closed data.
-/
import Derived.Test.YtjccjmmbebiegaaZ
import Derived.Test.YtjccjmmbebiegaaSteady
import Derived.Test.YtjccjmmbebiegaaPostLaw
import Derived.Test.YtjccjmmbebiegaaPoolSA
set_option linter.unusedVariables false
set_option linter.unusedSimpArgs false
namespace Go.Proofs.Ytjccjmmbebiegaa
open Go.RowKit Mc
abbrev M58:Int:=288230376151711744
abbrev B58 (v:Int):Prop:=-288230376151711744≤v∧v≤288230376151711744
def EntD.nil:EntD:=⟨⟨0,false,[],[],[],[],[]⟩,[]⟩
def StD.ent (S:StD) (e:Int):EntD:=S.ents.getD e.toNat EntD.nil
def StD.meth (S:StD) (e item:Int):Int:=(S.methods.getD e.toNat []).getD item.toNat 0
def StD.cost (S:StD) (e item:Int):Int:=(S.costs.getD e.toNat []).getD item.toNat 0
def EntD.pool (x:EntD) (k:Int):PoolD:=x.pools.getD k.toNat ⟨[],0,0,0⟩
structure EntOk (n:Nat) (ms:List Int) (x:EntC):Prop where
 pl:x.pools.length=2*n
 ok:∀(k:Nat) (p:PoolD),x.pools[k]?=some p→PoolOk (ms.getD (k/2) 0) p.layers p.pn
 bl:x.bal.length=17
 bb:∀v∈x.bal,B58 v
 rl:x.rolls.length=n
 rr:∀r∈x.rolls,r.length=11∧∀v∈r,B58 v
 pr:x.prices.length=n
 prb:∀v∈x.prices,-1≤v∧v≤M58
 dl:x.down.length=n
 db:∀v∈x.down,0≤v∧v≤M58
 now:1≤x.now∧x.now≤12
structure StOk (S:StD):Prop where
 hn:S.ents.length≤4
 hw:S.weights.length≤5
 hmm:S.methods.length=S.ents.length
 hcc:S.costs.length=S.ents.length
 hml:∀r∈S.methods,r.length=S.weights.length
 hcl:∀r∈S.costs,r.length=S.weights.length
 mb:∀r∈S.methods,∀v∈r,1≤v∧v≤4
 cb:∀r∈S.costs,∀v∈r,0≤v∧v≤1073741824
 ent:∀(e:Nat) (x:EntD),S.ents[e]?=some x→EntOk S.weights.length (S.methods.getD e []) x.toEntC
 ahead:∀x∈S.ents,∀(e:Nat),S.ents[e]?=some x→∀y∈x.ahead,EntOk S.weights.length (S.methods.getD e []) y
structure Ix (S:StD) (e item:Int):Prop where
 e0:0≤e
 e1:e<S.ents.length
 i0:0≤item
 i1:item<S.weights.length
section
variable {S:StD} {e item:Int}
theorem StOk.at_ (h:StOk S) (x:Ix S e item):S.ents[e.toNat]?=some (S.ent e):=getD_some (by have:=x.e0;have:=x.e1;omega)
theorem StOk.eok (h:StOk S) (x:Ix S e item):EntOk S.weights.length (S.methods.getD e.toNat []) (S.ent e).toEntC:=h.ent _ _ (h.at_ x)
theorem StOk.wx (h:StOk S) (x:Ix S e item):Wx S e item (S.ent e).now (S.ent e).closed (S.ent e).pools (S.ent e).bal (S.ent e).rolls (S.ent e).prices (S.ent e).down (S.ent e).ahead (S.methods.getD e.toNat []) (S.costs.getD e.toNat []) (S.meth e item) (S.cost e item):=by
 have E:=h.eok x
 have he:e.toNat<S.ents.length:=by have:=x.e0;have:=x.e1;omega
 have hm:e.toNat<S.methods.length:=by rw[h.hmm];exact he
 have hc:e.toNat<S.costs.length:=by rw[h.hcc];exact he
 have m1:=getD_mem (d:=[]) hm
 have c1:=getD_mem (d:=[]) hc
 have hml:=h.hml _ m1
 have hcl:=h.hcl _ c1
 have hi:item.toNat<S.weights.length:=by have:=x.i0;have:=x.i1;omega
 have m2:=h.mb _ m1 _ (getD_mem (d:=0) (k:=item.toNat) (by omega))
 have c2:=h.cb _ c1 _ (getD_mem (d:=0) (k:=item.toNat) (by omega))
 exact⟨h.hn,x.e0,x.e1,h.at_ x,h.hw,x.i0,x.i1,h.hmm,h.hcc,getD_some hm,getD_some hc,hml,hcl,E.pl,E.rl,getD_some (by omega),getD_some (by omega),⟨by unfold StD.meth;omega,by unfold StD.meth;omega⟩,⟨by unfold StD.cost;omega,by unfold StD.cost;omega⟩⟩
theorem Ix.ie (x:Ix S e item) (h:StOk S):I64 e:=by have:=x.e0;have:=x.e1;have:=h.hn;exact⟨by omega,by omega⟩
end
end Go.Proofs.Ytjccjmmbebiegaa
