/-
 The stock's functions on any state: what they answer, in plain data; their contracts, over closed data.
-/
import Derived.Test.YtnalblnmplnhmaaGreatGst
import Derived.Test.YtnalblnmplnhmaaGreatSteady
import Derived.Test.YtnalblnmplnhmaaGreatPostLaw
import Derived.Test.YtnalblnmplnhmaaGreatPoolSA
set_option linter.unusedVariables false
set_option linter.unusedSimpArgs false
namespace Go.Proofs.YtnalblnmplnhmaaGreat
open Go.RowKit Mc
abbrev M58:Int:=288230376151711744
abbrev B58 (v:Int):Prop:=-288230376151711744≤v∧v≤288230376151711744
def EntD.nil:EntD:=⟨⟨0,false,[],[],[],[],[]⟩,[]⟩
def StD.ent (S:StD) (e:Int):EntD:=S.ents.getD e.toNat EntD.nil
def StD.meth (S:StD) (e item:Int):Int:=(S.methods.getD e.toNat []).getD item.toNat 0
def StD.cost (S:StD) (e item:Int):Int:=(S.costs.getD e.toNat []).getD item.toNat 0
def EntD.pool (x:EntD) (k:Int):PoolD:=x.pools.getD k.toNat ⟨[],0,0,0⟩
def EntD.roll (x:EntD) (item:Int):List Int:=x.rolls.getD item.toNat []
def EntD.setPool (x:EntD) (k:Int) (p:PoolD):EntD:={ x with pools:=x.pools.set k.toNat p }
def EntD.setRoll (x:EntD) (item:Int) (r:List Int):EntD:={ x with rolls:=x.rolls.set item.toNat r }
structure EntOk (n:Nat) (ms:List Int) (x:EntC):Prop where
 pl:x.pools.length=2*n
 ok:∀(k:Nat) (p:PoolD),x.pools[k]?=some p→PoolOk (ms.getD (k/2) 0) p.layers p.pn
 bl:x.bal.length=17
 bb:∀v∈x.bal,B58 v
 rl:x.rolls.length=n
 rr:∀r∈x.rolls,r.length=11∧∀v∈r,B58 v
 pr:x.prices.length=n
 prb:∀v∈x.prices,-1≤v∧v≤M58
 dl:x.down.length=n
 db:∀v∈x.down,0≤v∧v≤M58
 now:1≤x.now∧x.now≤12
structure StOk (S:StD):Prop where
 hn:S.ents.length≤4
 hw:S.weights.length≤5
 hmm:S.methods.length=S.ents.length
 hcc:S.costs.length=S.ents.length
 hml:∀r∈S.methods,r.length=S.weights.length
 hcl:∀r∈S.costs,r.length=S.weights.length
 mb:∀r∈S.methods,∀v∈r,1≤v∧v≤4
 cb:∀r∈S.costs,∀v∈r,0≤v∧v≤1073741824
 ent:∀(e:Nat) (x:EntD),S.ents[e]?=some x→EntOk S.weights.length (S.methods.getD e []) x.toEntC
 ahead:∀x∈S.ents,∀(e:Nat),S.ents[e]?=some x→∀y∈x.ahead,EntOk S.weights.length (S.methods.getD e []) y
structure Ix (S:StD) (e item:Int):Prop where
 e0:0≤e
 e1:e<S.ents.length
 i0:0≤item
 i1:item<S.weights.length
theorem getD_some {α:Type} {l:List α} {k:Nat} {d:α} (h:k<l.length):l[k]?=some (l.getD k d):=by
 rw[List.getD,List.getElem?_eq_getElem h];rfl
theorem getD_mem {α:Type} {l:List α} {k:Nat} {d:α} (h:k<l.length):l.getD k d∈l:=List.mem_of_getElem? (getD_some (d:=d) h)
section
variable {S:StD} {e item:Int}
theorem StOk.at_ (h:StOk S) (x:Ix S e item):S.ents[e.toNat]?=some (S.ent e):=getD_some (by have:=x.e0;have:=x.e1;omega)
theorem StOk.eok (h:StOk S) (x:Ix S e item):EntOk S.weights.length (S.methods.getD e.toNat []) (S.ent e).toEntC:=h.ent _ _ (h.at_ x)
theorem StOk.wx (h:StOk S) (x:Ix S e item):Wx S e item (S.ent e).now (S.ent e).closed (S.ent e).pools (S.ent e).bal (S.ent e).rolls (S.ent e).prices (S.ent e).down (S.ent e).ahead (S.methods.getD e.toNat []) (S.costs.getD e.toNat []) (S.meth e item) (S.cost e item):=by
 have E:=h.eok x
 have he:e.toNat<S.ents.length:=by have:=x.e0;have:=x.e1;omega
 have hm:e.toNat<S.methods.length:=by rw[h.hmm];exact he
 have hc:e.toNat<S.costs.length:=by rw[h.hcc];exact he
 have m1:=getD_mem (d:=[]) hm
 have c1:=getD_mem (d:=[]) hc
 have hml:=h.hml _ m1
 have hcl:=h.hcl _ c1
 have hi:item.toNat<S.weights.length:=by have:=x.i0;have:=x.i1;omega
 have m2:=h.mb _ m1 _ (getD_mem (d:=0) (k:=item.toNat) (by omega))
 have c2:=h.cb _ c1 _ (getD_mem (d:=0) (k:=item.toNat) (by omega))
 exact⟨h.hn,x.e0,x.e1,h.at_ x,h.hw,x.i0,x.i1,h.hmm,h.hcc,getD_some hm,getD_some hc,hml,hcl,E.pl,E.rl,getD_some (by omega),getD_some (by omega),⟨by unfold StD.meth;omega,by unfold StD.meth;omega⟩,⟨by unfold StD.cost;omega,by unfold StD.cost;omega⟩⟩
theorem StOk.mb' (h:StOk S) (x:Ix S e item):1≤S.meth e item∧S.meth e item≤4:=by
 have he:e.toNat<S.ents.length:=by have:=x.e0;have:=x.e1;omega
 have hm:e.toNat<S.methods.length:=by rw[h.hmm];exact he
 have m1:=getD_mem (d:=[]) hm
 have hml:=h.hml _ m1
 have hi:item.toNat<S.weights.length:=by have:=x.i0;have:=x.i1;omega
 exact h.mb _ m1 _ (getD_mem (d:=0) (k:=item.toNat) (by omega))
theorem StOk.cb' (h:StOk S) (x:Ix S e item):0≤S.cost e item∧S.cost e item≤1073741824:=by
 have he:e.toNat<S.ents.length:=by have:=x.e0;have:=x.e1;omega
 have hc:e.toNat<S.costs.length:=by rw[h.hcc];exact he
 have c1:=getD_mem (d:=[]) hc
 have hcl:=h.hcl _ c1
 have hi:item.toNat<S.weights.length:=by have:=x.i0;have:=x.i1;omega
 exact h.cb _ c1 _ (getD_mem (d:=0) (k:=item.toNat) (by omega))
theorem StOk.plt (h:StOk S) (x:Ix S e item) {loc:Int} (l0:0≤loc) (l1:loc≤1):(2*item+loc).toNat<(S.ent e).pools.length:=by
 have:=(h.eok x).pl;have:=x.i0;have:=x.i1
 omega
theorem StOk.pat (h:StOk S) (x:Ix S e item) {loc:Int} (l0:0≤loc) (l1:loc≤1):(S.ent e).pools[(2*item+loc).toNat]?=some ((S.ent e).pool (2*item+loc)):=getD_some (h.plt x l0 l1)
theorem StOk.pok (h:StOk S) (x:Ix S e item) {loc:Int} (l0:0≤loc) (l1:loc≤1):PoolOk (S.meth e item) ((S.ent e).pool (2*item+loc)).layers ((S.ent e).pool (2*item+loc)).pn:=by
 have k:=(h.eok x).ok _ _ (h.pat x l0 l1)
 have e1:(2*item+loc).toNat/2=item.toNat:=by have:=x.i0;omega
 rw[e1]at k
 exact k
theorem Ix.ie (x:Ix S e item) (h:StOk S):I64 e:=by have:=x.e0;have:=x.e1;have:=h.hn;exact⟨by omega,by omega⟩
theorem Ix.ii (x:Ix S e item) (h:StOk S):I64 item:=by have:=x.i0;have:=x.i1;have:=h.hw;exact⟨by omega,by omega⟩
theorem ck_Ready (h:StOk S) (x:Ix S e item):CK Tryz.prog 113 [S.av,.i e,.i item] (.i (if(S.ent e).closed then 7 else 0)):=by
 have W:=h.wx x
 generalize hcl:(S.ent e).closed=cl at *
 cases cl with
 |true=>exact Ready_true W
 |false=>exact Ready_false W
theorem ck_At (h:StOk S) (x:Ix S e item) {loc:Int} (l0:0≤loc) (l1:loc≤1):CK Tryz.prog 16 [S.av,.i e,.i item,.i loc] ((S.ent e).pool (2*item+loc)).av :=
 At_ok (h.wx x) l0 l1 rfl (h.pat x l0 l1) (h.pok x l0 l1).lr.len
def worthT (S:StD) (e item:Int):Lay×Bool :=
 let a:=((S.ent e).pool (2*item)).layers
 let b:=((S.ent e).pool (2*item+1)).layers
 (⟨sumV [qs a,qs b],sumV [vs a,vs b],sumV [ps a,ps b]⟩,decide (sumE [qs a,qs b]=0∧sumE [vs a,vs b]=0∧sumE [ps a,ps b]=0))
theorem sumE_02 (l:List Int):sumE l=0∨sumE l=2:=by unfold sumE;split<;>simp
theorem allI2 {a b:Int} (h1:I64 a) (h2:I64 b):AllI [a,b]:=by
 intro v hv
 simp only[List.mem_cons,List.not_mem_nil,or_false]at hv
 rcases hv with rfl|rfl
 ·exact h1
 ·exact h2
theorem LR.bds {l:List Lay} (h:LR l):I64 (qs l)∧I64 (vs l)∧I64 (ps l):=by
 have h1:=qs_pos h.ok
 have h2:=h.q
 have h3:=h.v
 have h4:=h.p
 have h5:=ps_le l
 exact⟨⟨by omega,by omega⟩,⟨by omega,by omega⟩,⟨by omega,by omega⟩⟩
theorem ck_worth (h:StOk S) (x:Ix S e item):CK Tryz.prog 29 [S.av,.i e,.i item] (.tup [(worthT S e item).1.av,.c (.bool (worthT S e item).2)]):=by
 have a0:=ck_At h x (loc:=0) (by omega) (by omega)
 have a1:=ck_At h x (loc:=1) (by omega) (by omega)
 have r0:=(h.pok x (loc:=0) (by omega) (by omega)).lr
 have r1:=(h.pok x (loc:=1) (by omega) (by omega)).lr
 rw[Int.add_zero]at a0 r0
 have t0:=ck_fifoTotal r0
 have t1:=ck_fifoTotal r1
 unfold worthT
 generalize (S.ent e).pool (2*item)=P0 at *
 generalize (S.ent e).pool (2*item+1)=P1 at *
 obtain⟨b1,b2,b3⟩:=r0.bds
 obtain⟨c1,c2,c3⟩:=r1.bds
 have sq:=ck_Sum [qs P0.layers,qs P1.layers] (allI2 b1 c1)
 have sv:=ck_Sum [vs P0.layers,vs P1.layers] (allI2 b2 c2)
 have sp:=ck_Sum [ps P0.layers,ps P1.layers] (allI2 b3 c3)
 have hq:=sumE_02 [qs P0.layers,qs P1.layers]
 have hv:=sumE_02 [vs P0.layers,vs P1.layers]
 have hp:=sumE_02 [ps P0.layers,ps P1.layers]
 simp only
 generalize sumE [qs P0.layers,qs P1.layers]=eq at *
 generalize sumE [vs P0.layers,vs P1.layers]=ev at *
 generalize sumE [ps P0.layers,ps P1.layers]=ep at *
 rcases hq with rfl|rfl<;>rcases hv with rfl|rfl<;>rcases hp with rfl|rfl
 ·exact Worth_0 (x.ie h) (x.ii h) a0 a1 t0 t1 sq sv sp
 ·exact Worth_4 (x.ie h) (x.ii h) a0 a1 t0 t1 sq sv sp
 ·exact Worth_2 (x.ie h) (x.ii h) a0 a1 t0 t1 sq sv sp
 ·exact Worth_6 (x.ie h) (x.ii h) a0 a1 t0 t1 sq sv sp
 ·exact Worth_1 (x.ie h) (x.ii h) a0 a1 t0 t1 sq sv sp
 ·exact Worth_5 (x.ie h) (x.ii h) a0 a1 t0 t1 sq sv sp
 ·exact Worth_3 (x.ie h) (x.ii h) a0 a1 t0 t1 sq sv sp
 ·exact Worth_7 (x.ie h) (x.ii h) a0 a1 t0 t1 sq sv sp
theorem ck_Worth (h:StOk S) (x:Ix S e item):CK Tryz.prog 15 [S.av,.i e,.i item] (worthT S e item).1.av:=by
 have k:=ck_worth h x
 generalize worthT S e item=r at *
 obtain⟨y,b⟩:=r
 cases b with
 |true=>exact Worth_is_true (x.ie h) (x.ii h) k
 |false=>exact Worth_is_false (x.ie h) (x.ii h) k
def steadyT (S:StD) (e item:Int):Bool:=decide (sumE (sw ((S.ent e).pool (2*item)).layers++sw ((S.ent e).pool (2*item+1)).layers)=0)
theorem ck_steady (h:StOk S) (x:Ix S e item):CK Tryz.prog 160 [S.av,.i e,.i item] (.c (.bool (steadyT S e item))):=by
 have a0:=ck_At h x (loc:=0) (by omega) (by omega)
 have a1:=ck_At h x (loc:=1) (by omega) (by omega)
 have r0:=(h.pok x (loc:=0) (by omega) (by omega)).lr
 have r1:=(h.pok x (loc:=1) (by omega) (by omega)).lr
 rw[Int.add_zero]at a0 r0
 have hs:=ck_Sum (sw ((S.ent e).pool (2*item)).layers++sw ((S.ent e).pool (2*item+1)).layers) (by
  intro v hv
  rcases List.mem_append.1 hv with hv|hv
  ·obtain⟨y,hy,rfl⟩:=List.mem_map.1 hv
   have:=Steady.sw_bd r0.ok y hy
   exact⟨by omega,by omega⟩
  ·obtain⟨y,hy,rfl⟩:=List.mem_map.1 hv
   have:=Steady.sw_bd r1.ok y hy
   exact⟨by omega,by omega⟩)
 exact Steady.walk (x.ie h) (x.ii h) a0 a1 r0 r1 hs (sumE_02 _)
end
end Go.Proofs.YtnalblnmplnhmaaGreat
