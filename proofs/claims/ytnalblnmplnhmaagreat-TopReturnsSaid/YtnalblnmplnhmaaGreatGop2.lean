/-
 Goods that come back, on any state: what the program answers, in plain data; its contract. (Printed by wip/mk_gop2.py.)
-/
import Derived.Test.YtnalblnmplnhmaaGreatGop1
set_option linter.unusedVariables false
set_option linter.unusedSimpArgs false
namespace Go.Proofs.YtnalblnmplnhmaaGreat
open Go.RowKit Mc
def backT (S:StD) (s:SaD) (ref q a:Int):StD×Int :=
 match bringT S s.entity s.item s.loc ⟨q,partS s.cost q (s.qty-s.back),partS s.profit q (s.qty-s.back)⟩with
 |(S1,ca,up,f)=>if f≠0 then(S,f)else
  match postG S1 s.entity [⟨0,ca⟩,⟨6,up⟩,⟨5,-partS s.cost q (s.qty-s.back)⟩,⟨4,a⟩,⟨3,-a⟩]with
  |(S2,f)=>if f≠0 then(S,f)else
   match turnT S2 s.entity s.item [0,0,0,0,ca,0,0,0,0,0,0]with
   |(S3,f)=>if f≠0 then(S,f)else({ S3 with sales:=S.sales.set ref.toNat { s with back:=q+s.back,cost:=s.cost-partS s.cost q (s.qty-s.back),profit:=s.profit-partS s.profit q (s.qty-s.back) },done:=1+S.done },0)
def unsellT (S:StD) (s:SaD) (ref q a:Int):StD×Int :=
 if((S.ent s.entity).pool (2*s.item+s.loc)).p0<q then(S,5)else
 match postG S s.entity [⟨4,a⟩,⟨3,-a⟩]with
 |(S1,f)=>if f≠0 then(S,f)else
  ({ S1.setEnt s.entity ((S1.ent s.entity).setPool (2*s.item+s.loc) { (S.ent s.entity).pool (2*s.item+s.loc)with p0:=((S.ent s.entity).pool (2*s.item+s.loc)).p0-q })with sales:=S.sales.set ref.toNat { s with back:=q+s.back },done:=1+S.done },0)
def takeBackT (S:StD) (ref q a:Int):StD×Int :=
 match S.sales[ref.toNat]? with
 |none=>(S,4)
 |some s=>if(S.ent s.entity).closed=true then(S,7)else if s.qty-s.back<q then(S,5)else
  if s.waits=true∧s.period=(S.ent s.entity).now then unsellT S s ref q a else backT S s ref q a
theorem part_B {v q n:Int} (hn:1≤n) (hq:0≤q) (hqn:q≤n) (hv:B58 v):B58 (partS v q n):=by
 have:=part_bd hn hq hqn (inB_iff.2 ⟨hv.1,hv.2⟩)
 rcases Int.lt_or_le v 0 with h|h
 ·have:=this.2 h;exact⟨by omega,by omega⟩
 ·have:=this.1 h;exact⟨by omega,by omega⟩
theorem ck_pavgBack {p:PoolD} {q:Int} (hl:p.layers.length≤30) (hp:B60 p.p0) (hq:1≤q∧q≤1073741824):Ck 163 [p.av,.i 0,.i q] (.tup [({ p with p0:=if p.p0<q then p.p0 else p.p0-q }:PoolD).av,.i (if p.p0<q then 5 else 0)]):=by
 obtain⟨L,p0,p1,p2⟩:=p
 by_cases h:p0<q
 ·simp only[h,if_true]
  exact PBack_short hl hq hp h
 ·simp only[h,if_false]
  exact PBack_ok hl hq hp (by show q≤p0;omega) rfl
theorem postG_pools {S:StD} {e item:Int} (h:StOk S) (x:Ix S e item) (l:List Lin):((postG S e l).1.ent e).pools=(S.ent e).pools:=by
 unfold postG
 split
 ·rfl
 ·split
  ·rfl
  ·rw[StD.ent_setEnt x];rfl
section
variable {S:StD} {e item loc q a ref sq sb sc sp st:Int}
end
end Go.Proofs.YtnalblnmplnhmaaGreat
