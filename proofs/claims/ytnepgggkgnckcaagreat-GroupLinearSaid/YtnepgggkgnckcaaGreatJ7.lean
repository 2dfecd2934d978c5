/-
 Texts joined and made small by wip/small.sh.
-/
import Derived.Test.YtnepgggkgnckcaaGreatJ6
import Derived.Test.YtnepgggkgnckcaaGreatProg
set_option linter.unusedVariables false
set_option linter.unusedSimpArgs false
namespace Go.Proofs.YtnepgggkgnckcaaGreat
open Go.RowKit
section
open Mc
set_option maxRecDepth 100000
namespace L3
def cl (b r:List Int) (P:List bB):eC:=⟨⟨1,true,[⟨P,0,0,0⟩,⟨[],0,0,0⟩],b,[r],[-1],[0]⟩,[(en b r P).toEntC]⟩
theorem aeg {b:List Int} (h:b.length=17):Gz b []=b:=by
 unfold Gz;apply List.ext_getElem
 ·simp[h]
 ·intro i h1 h2
  simp[eO,List.getD,List.getElem?_eq_getElem h2]
theorem C9 {S:bH} {e:Nat} {b r:List Int} {P:List bB} {K:Int} (he:e<S.aH.length) (hE:S.aH[e]?=some (en b r P)) (hm:S.fJ (e:Int) 0=2) (hw:S.weights=[1]) (hb:b.length=17) (hB:∀a:Nat,a<17→-2000000≤b.getD a 0∧b.getD a 0≤2000000) :
  iR S (e:Int)=(S.bP (e:Int) (cl b r P),0):=by
 have hent:S.bU (e:Int)=en b r P:=by
  unfold bH.bU;rw[Int.toNat_natCast,List.getD,hE];rfl
 have hset:S.bP (e:Int) (en b r P)=S:=by
  unfold bH.bP;rw[Int.toNat_natCast,show S.aH.set e (en b r P)=S.aH by
   apply List.ext_getElem?
   intro k;rw[List.getElem?_set];split
   ·rename_i h;subst h;rw[hE]
   ·rfl]
 have sm:Small []:=⟨fun x hx=>absurd hx List.not_mem_nil,by simp⟩
 have hpo:gK S (e:Int) []=(S,0):=by
  unfold gK;rw[xL sm];simp only
  rw[if_neg (by simp),hent,show(en b r P).dC=b from rfl,Fx hb (fun a ha=>by have:=hB a ha;omega) sm (by simp[gH])]
  simp only[ne_eq,not_true_eq_false,if_false];rw[aeg hb,show(en b r P).xD b=en b r P from rfl,hset]
 have hpr:S.Fs (e:Int) 0=-1:=by unfold bH.Fs;rw[hent];rfl
 have hmk:pI S (e:Int)=(S,0):=by
  unfold pI;rw[hw];simp only[List.length_singleton,nD,nN,hpr];have n0:¬ (0:Int)≤-1:=by omega
  simp only[if_neg n0,List.append_nil];rw[hent,show(en b r P).yM (en b r P).down=en b r P from rfl,hset,hpo]
  rfl
 have hsa:jC (e:Int) S.weights.length 0 S=(S,0):=by
  rw[hw];show jC (e:Int) 1 0 S=_
  unfold jC;rw[show S.fJ (e:Int) ((0:Nat):Int)=2 from hm,if_neg (by omega)]
  rfl
 unfold iR;rw[hent,if_neg (by simp[en]),hsa]
 simp only[ne_eq,not_true_eq_false,if_false];rw[hmk];simp only[not_true_eq_false,if_false];rw[hent];rfl
section
variable {b r:Nat→List Int} {P:Nat→List bB} {rc:List yF} {tr:List wX} {d:Int}
def pK (b r:Nat→List Int) (P:Nat→List bB) (rc:List yF) (tr:List wX) (d:Int):bH:=⟨3,1,[1],[[2],[2],[2]],[[0],[0],[0]],[cl (b 0) (r 0) (P 0),cl (b 1) (r 1) (P 1),cl (b 2) (r 2) (P 2)],rc,[],tr,d⟩
theorem Gi (B:PO 2000000 b r):oE (st b r P rc tr d) 3=pK b r P rc tr d:=by
 have h0:iR (st b r P rc tr d) ((0:Nat):Int)=_:=C9 (K:=0) (b:=b 0) (r:=r 0) (P:=P 0) (by simp[st]) rfl rfl rfl (B.bl 0) (B.bb 0)
 have h1:iR ((st b r P rc tr d).bP ((0:Nat):Int) (cl (b 0) (r 0) (P 0))) ((1:Nat):Int)=_:=C9 (K:=0) (b:=b 1) (r:=r 1) (P:=P 1) (by simp[st,bH.bP]) rfl rfl rfl (B.bl 1) (B.bb 1)
 have h2:iR (((st b r P rc tr d).bP ((0:Nat):Int) (cl (b 0) (r 0) (P 0))).bP ((1:Nat):Int) (cl (b 1) (r 1) (P 1))) ((2:Nat):Int)=_:=C9 (K:=0) (b:=b 2) (r:=r 2) (P:=P 2) (by simp[st,bH.bP]) rfl rfl rfl (B.bl 2) (B.bb 2)
 show(iR (iR (iR (st b r P rc tr d) ((0:Nat):Int)).1 ((1:Nat):Int)).1 ((2:Nat):Int)).1=_
 rw[h0,h1,h2];rfl
def One (l:List bB):Prop:=l=[]∨∃x,l=[x]∧(0≤x.q∧x.q≤10000)∧(0≤x.v∧x.v≤10000)∧(-10000≤x.p∧x.p≤10000)
theorem One.bd {l:List bB} (h:One l):(0≤qs l∧qs l≤10000)∧(0≤vs l∧vs l≤10000)∧(-10000≤ps l∧ps l≤10000):=by
 rcases h with rfl|⟨x,rfl,h1,h2,h3⟩
 ·simp[qs,vs,ps]
 ·simp[qs,vs,ps];omega
theorem pY {e:Nat} (he:e<3) (h:∀j,j<3→One (P j)):(dQ (pK b r P rc tr d) (e:Int) 0).1=⟨qs (P e),vs (P e),ps (P e)⟩:=by
 have hE:(pK b r P rc tr d).bU (e:Int)=cl (b e) (r e) (P e):=by
  rcases(by omega:e=0∨e=1∨e=2)with rfl|rfl|rfl<;>rfl
 obtain⟨h1,h2,h3⟩:=(h e he).bd
 have two:∀x:Int,-10000≤x∧x≤10000→cU [x,0]=x:=fun x hx=>(by
  have:=(P9 (l:=[x,0]) (by simp[eB];omega)).1
  simpa using this)
 unfold dQ;rw[hE];show(⟨cU [qs (P e),qs []],cU [vs (P e),vs []],cU [ps (P e),ps []]⟩:bB)=_
 rw[show qs []=0 from rfl,show vs []=0 from rfl,show ps []=0 from rfl,two _ (by omega),two _ (by omega),two _ (by omega)]
theorem B5 {l:List Int} {M:Int} (h:∀v∈l,-M≤v∧v≤M):eB l≤M*l.length:=by
 induction l with
 |nil=>simp[eB]
 |cons x t ih =>
  have hx:=h x List.mem_cons_self;have:=ih fun v hv=>h v (List.mem_cons_of_mem _ hv)
  rw[fV,List.length_cons];have e:M*((t.length+1:Nat):Int)=M*t.length+M:=by rw[show((t.length+1:Nat):Int)=(t.length:Int)+1 by omega,Int.mul_add,Int.mul_one]
  omega
theorem OE {l:List Int} {M:Int} (hM:0≤M∧M≤2000000) (hl:l.length≤12) (h:∀v∈l,-M≤v∧v≤M):Fw l:=by
 refine⟨?_⟩
 have:=B5 h
 have h2:M*(l.length:Int)≤2000000*12:=Int.mul_le_mul hM.2 (by omega) (by omega) (by omega)
 omega
end
end L3
end
section
open Mc
set_option maxRecDepth 100000
namespace L3
theorem Iq {S:bH} (G:Gn S) (hw1:1≤S.weights.length):∀j:Nat,j≤S.aH.length→Gn (oE S j)∧(oE S j).aH.length=S.aH.length∧(oE S j).weights=S.weights
 |0,_=>⟨G,rfl,rfl⟩
 |j+1,hj=>by
  obtain⟨g,l,w⟩:=Iq G hw1 j (by omega)
  have F:=Gj g (e:=(j:Int)) ⟨by omega,by omega,by omega,by rw[w];omega⟩
  exact⟨F.gn,F.le.trans l,F.wt.trans w⟩
section
variable {b r:Nat→List Int} {P:Nat→List bB} {rc:List yF} {tr:List wX} {d:Int}
theorem P7 (ht:∀t∈tr,t.item=0):tL (pK b r P rc tr d) 0 tr.length=tr:=by
 unfold tL;rw[show(pK b r P rc tr d).aM=tr from rfl,List.take_length,List.filter_eq_self]
 intro t h;rw[beq_iff_eq];exact ht t h
theorem PX (h:∀j,j<3→One (P j)):wL (pK b r P rc tr d) 0 3=[⟨qs (P 0),vs (P 0),ps (P 0)⟩,⟨qs (P 1),vs (P 1),ps (P 1)⟩,⟨qs (P 2),vs (P 2),ps (P 2)⟩]:=by
 show[(dQ (pK b r P rc tr d) ((0:Nat):Int) 0).1,(dQ (pK b r P rc tr d) ((1:Nat):Int) 0).1,(dQ (pK b r P rc tr d) ((2:Nat):Int) 0).1]=_
 rw[pY (by omega) h,pY (by omega) h,pY (by omega) h]
theorem afa (h:∀j,j<3→One (P j)):TJ (pK b r P rc tr d) 3=[ps (P 0),ps (P 1),ps (P 2)]:=by
 show[(dQ (pK b r P rc tr d) ((0:Nat):Int) 0).1.p,(dQ (pK b r P rc tr d) ((1:Nat):Int) 0).1.p,(dQ (pK b r P rc tr d) ((2:Nat):Int) 0).1.p]=_
 rw[pY (by omega) h,pY (by omega) h,pY (by omega) h]
theorem Cm {f:List bB→Int} (h0:f []=0) {j:Nat} (hj:j<3) (hno:∀k,k<3→k≠j→P k=[]):f (P 0)+f (P 1)+f (P 2)=f (P j):=by
 rcases(by omega:j=0∨j=1∨j=2)with rfl|rfl|rfl
 ·rw[hno 1 (by omega) (by omega),hno 2 (by omega) (by omega),h0];omega
 ·rw[hno 0 (by omega) (by omega),hno 2 (by omega) (by omega),h0];omega
 ·rw[hno 0 (by omega) (by omega),hno 1 (by omega) (by omega),h0];omega
theorem adB (a:Nat):Cf (pK b r P rc tr d) (a:Int)=[(b 0).getD a 0,(b 1).getD a 0,(b 2).getD a 0]∧(Cf (pK b r P rc tr d) (a:Int)).sum=Tt b a:=by
 have e:Cf (pK b r P rc tr d) (a:Int)=[(b 0).getD a 0,(b 1).getD a 0,(b 2).getD a 0]:=by
  unfold Cf;rw[Int.toNat_natCast];rfl
 refine⟨e,?_⟩
 rw[e];simp only[List.sum_cons,List.sum_nil];unfold Tt;omega
end
theorem ake {n p pr:Int} {S:bH} (hn:1≤n∧n≤50) (hp:0≤p∧p≤pr) (hpr:pr≤10000) (h:agp n p pr S):Good n p pr (pr-p) S:=by
 obtain⟨b,r,P,rc,tr,d,j,q,v,s,x0,x12,rfl,G,B,htl,hj,hno,hex,qb,vb,sb,T,hx,ht,sq,sv,sp⟩:=h.ex;have hone:∀k,k<3→One (P k):=by
  intro k hk;by_cases hkj:k=j
  ·subst hkj
   rcases hex with⟨h1,-⟩|h1
   ·exact .inl h1
   ·exact .inr ⟨_,h1,qb,vb,sb⟩
  ·exact .inl (hno k hk hkj)
 have hP:qs (P j)=q∧vs (P j)=v∧ps (P j)=s:=by
  rcases hex with⟨h1,rfl,rfl,rfl⟩|h1
  ·rw[h1];exact⟨rfl,rfl,rfl⟩
  ·rw[h1];simp[qs,vs,ps]
 have eq3:=Cm (P:=P) (f:=qs) rfl hj hno
 have ev3:=Cm (P:=P) (f:=vs) rfl hj hno
 have ep3:=Cm (P:=P) (f:=ps) rfl hj hno
 rw[hP.1]at eq3;rw[hP.2.1]at ev3;rw[hP.2.2]at ep3
 have hC:=aa1 G (show 1≤1 from Nat.le_refl 1) (show(1:Int)≤12 by omega)
 obtain⟨GU,-,-⟩:=Iq G (show 1≤1 from Nat.le_refl 1) 3 (Nat.le_refl _)
 rw[show(st b r P rc tr d).aH.length=3 from rfl,Gi B]at hC
 rw[Gi B]at GU;have uF:∀x∈(pK b r P rc tr d).aH,x.closed=true∧x.now=1:=by
  intro x hx;simp only[pK,List.mem_cons,List.not_mem_nil,or_false]at hx;rcases hx with rfl|rfl|rfl<;>exact⟨rfl,rfl⟩
 have o0:=(hone 0 (by omega)).bd
 have o1:=(hone 1 (by omega)).bd
 have o2:=(hone 2 (by omega)).bd
 have hQ:Sw (pK b r P rc tr d) 0=[qs (P 0),qs (P 1),qs (P 2)]++tr.map (·.lS):=by
  unfold Sw;rw[show(pK b r P rc tr d).aH.length=3 from rfl,PX hone,show(pK b r P rc tr d).aM.length=tr.length from rfl,P7 fun t h=>(ht t h).1];rfl
 have hV:Su (pK b r P rc tr d) 0=[vs (P 0),vs (P 1),vs (P 2)]++tr.map (·.value):=by
  unfold Su;rw[show(pK b r P rc tr d).aH.length=3 from rfl,PX hone,show(pK b r P rc tr d).aM.length=tr.length from rfl,P7 fun t h=>(ht t h).1];rfl
 have hPp:Sx (pK b r P rc tr d) 0=[ps (P 0),ps (P 1),ps (P 2)]++tr.map (·.cN):=by
  unfold Sx;rw[show(pK b r P rc tr d).aH.length=3 from rfl,PX hone,show(pK b r P rc tr d).aM.length=tr.length from rfl,P7 fun t h=>(ht t h).1];rfl
 have hD:GS (pK b r P rc tr d) 0=[0,0,0]:=rfl
 have hH:=afa (b:=b) (r:=r) (rc:=rc) (tr:=tr) (d:=d) hone
 have sQ:(Sw (pK b r P rc tr d) 0).sum=n:=by rw[hQ,List.sum_append];simp only[List.sum_cons,List.sum_nil];omega
 have sV:(Su (pK b r P rc tr d) 0).sum=pr:=by rw[hV,List.sum_append];simp only[List.sum_cons,List.sum_nil];omega
 have sP:(Sx (pK b r P rc tr d) 0).sum=pr-p:=by rw[hPp,List.sum_append];simp only[List.sum_cons,List.sum_nil];omega
 have sH:(TJ (pK b r P rc tr d) 3).sum=s:=by rw[hH];simp only[List.sum_cons,List.sum_nil];omega
 have fw3:∀{x y z:Int} {f:wX→Int},(-10000≤x∧x≤10000)→(-10000≤y∧y≤10000)→(-10000≤z∧z≤10000)→(∀t∈tr,-10000≤f t∧f t≤10000)→Fw ([x,y,z]++tr.map f):=by
  intro x y z f hx hy hz hf;refine OE (M:=10000) (by omega) (by simp;omega) ?_
  intro u hu;rcases List.mem_append.1 hu with hu|hu
  ·simp only[List.mem_cons,List.not_mem_nil,or_false]at hu
   rcases hu with rfl|rfl|rfl<;>omega
  ·obtain⟨t,htm,rfl⟩:=List.mem_map.1 hu
   exact hf t htm
 have M:Sml (pK b r P rc tr d):=by
  refine⟨?_,?_,?_,?_⟩
  ·intro i hi
   obtain rfl:i=0:=by
    have:((pK b r P rc tr d).weights.length:Int)=1:=rfl
    omega
   rw[hQ,hV,hPp,hD];exact⟨fw3 (by omega) (by omega) (by omega) fun t h=>by have:=(ht t h).2.1;omega,fw3 (by omega) (by omega) (by omega) fun t h=>(ht t h).2.2.1,fw3 o0.2.2 o1.2.2 o2.2.2 fun t h=>(ht t h).2.2.2,OE (M:=0) (by omega) (by simp) (by simp)⟩
  ·intro a ha
   obtain⟨k,rfl⟩:∃k:Nat,a=(k:Int):=⟨a.toNat,by omega⟩
   rw[(adB k).1];refine OE (M:=2000000) (by omega) (by simp) ?_
   intro u hu;simp only[List.mem_cons,List.not_mem_nil,or_false]at hu;rcases hu with rfl|rfl|rfl
   ·exact B.bb 0 k (by omega)
   ·exact B.bb 1 k (by omega)
   ·exact B.bb 2 k (by omega)
  ·rw[show(pK b r P rc tr d).aH.length=3 from rfl,hH]
   refine OE (M:=10000) (by omega) (by simp) ?_
   intro u hu;simp only[List.mem_cons,List.not_mem_nil,or_false]at hu;rcases hu with rfl|rfl|rfl<;>omega
  ·show Fw (tr.map (·.cN))
   refine OE (M:=10000) (by omega) (by simp;omega) ?_
   intro u hu;obtain⟨t,htm,rfl⟩:=List.mem_map.1 hu;exact(ht t htm).2.2.2
 have hr:Ck 33 [(pK b r P rc tr d).av] (.i 0):=by
  rcases aaW GU (.inr rfl) (fun x hx=>(uF x hx).1)with⟨hr,-⟩|⟨-,x,hx,y,hy,hne⟩
  ·exact hr
  ·exact absurd ((uF x hx).2.trans (uF y hy).2.symm) hne
 have hG:=aaY GU (.inr rfl) (show 1≤1 from Nat.le_refl 1) (fun x hx=>(uF x hx).1) M hr (x:=cl (b 0) (r 0) (P 0)) (now:=1) rfl rfl
 obtain⟨t0,t12,t5,tm,ts⟩:=T;have g:=fun a=>(adB (b:=b) (r:=r) (P:=P) (rc:=rc) (tr:=tr) (d:=d) a).2
 have g14:=g 14;have g13:=g 13;have g15:=g 15;have g16:=g 16
 have bs:∀k:Nat,k<17→(gbL (pK b r P rc tr d) (dS (gL7 (pK b r P rc tr d))) 17)[k]?=some (Tt b k+eO (gL7 (pK b r P rc tr d)) (k:Int)):=by
  intro k hk;unfold gbL;rw[List.getElem?_map,List.getElem?_range hk];simp only[Option.map_some];rw[g k,EJ _ hk]
 have hL7:gL7 (pK b r P rc tr d)=[⟨14,-Tt b 14⟩,⟨13,-Tt b 13⟩,⟨15,-Tt b 15⟩,⟨16,-Tt b 16⟩,⟨0,-s⟩,⟨12,-(tr.map (·.cN)).sum⟩,⟨5,-(-Tt b 14+(-Tt b 13+(-Tt b 15+(-Tt b 16+(-s+-(tr.map (·.cN)).sum)))))⟩]:=by
  unfold gL7;simp only
  rw[show(pK b r P rc tr d).aH.length=3 from rfl,sH,show(14:Int)=((14:Nat):Int)from rfl,show(13:Int)=((13:Nat):Int)from rfl,show(15:Int)=((15:Nat):Int)from rfl,show(16:Int)=((16:Nat):Int)from rfl,g14,g13,g15,g16]
  rfl
 have v0:eO (gL7 (pK b r P rc tr d)) ((0:Nat):Int)=-s:=by
  rw[hL7];simp[fF];simp[eO]
 have v12:eO (gL7 (pK b r P rc tr d)) ((12:Nat):Int)=-(tr.map (·.cN)).sum:=by
  rw[hL7];simp[fF];simp[eO]
 have v5:eO (gL7 (pK b r P rc tr d)) ((5:Nat):Int)=-(-Tt b 14+(-Tt b 13+(-Tt b 15+(-Tt b 16+(-s+-(tr.map (·.cN)).sum))))):=by
  rw[hL7];simp[fF];simp[eO]
 have b0:=bs 0 (by omega);have b12:=bs 12 (by omega);have b5:=bs 5 (by omega)
 rw[v0]at b0;rw[v12]at b12;rw[v5]at b5;have c0:=B.bb 0 12 (by omega);have c1:=B.bb 1 12 (by omega);have c2:=B.bb 2 12 (by omega)
 have e0:=B.bb 0 0 (by omega);have e1:=B.bb 1 0 (by omega);have e2:=B.bb 2 0 (by omega)
 have x12e:x12=(b 0).getD 12 0+(b 1).getD 12 0+(b 2).getD 12 0:=t12.symm
 have x0e:x0=(b 0).getD 0 0+(b 1).getD 0 0+(b 2).getD 0 0:=t0.symm
 refine⟨_,_,_,_,1,0,x0-s,x12-(tr.map (·.cN)).sum,hC,hG,?_,by simp[gbL],?_,?_,?_,by omega,by omega,by omega⟩
 ·show D8 (pK b r P rc tr d) 1=_
  unfold D8 D7;show[(⟨(Sw (pK b r P rc tr d) 0).sum,(Su (pK b r P rc tr d) 0).sum,(Sx (pK b r P rc tr d) 0).sum,(GS (pK b r P rc tr d) 0).sum⟩:vB)]=_
  rw[sQ,sV,sP,hD];rfl
 ·rw[b0];congr 1;omega
 ·rw[b12];congr 1;omega
 ·rw[b5];congr 1;omega
end L3
end
section
open Mc
set_option maxRecDepth 1000000 in
theorem Mf:Mc.yN (@Mc.Di Mc.dI Tryz.prog 100000 60 13 [] .leaf 0)=true:=by decide +kernel
theorem adA (w:World):Calls Tryz.prog 13 #[] w fun e w'=>e=.returned (.bool true)∧Below w.heap.size w w':=Mc.XP Mf w
set_option maxRecDepth 1000000
abbrev lMD:AV:=.agg [.i 3,.i 1,.lit 1 [[.i 1]],.lit 1 [[.lit 1 [[.i 2]]],[.lit 1 [[.i 2]]],[.lit 1 [[.i 2]]]],.lit 1 [[.lit 1 [[.i 0]]],[.lit 1 [[.i 0]]],[.lit 1 [[.i 0]]]]]
theorem Is:Ck 15 [lMD] L3.start.av:=cw _ (ev1 {  } [] [] [] .nil) KF (.agg [.i 3,.i 1,(.lit 1 [[.i 1]]),QA,QC,(.lit 8 [Ke,Ke,Ke]),(.lit 8 []),(.lit 9 []),(.lit 6 []),.i 0]) kn
theorem It:Ck 13 [] WP:=by
 refine⟨(fun x h=>nomatch h),.c _,?_⟩
 intro A w vs hA hG hl hv;obtain rfl:vs=#[]:=Array.eq_empty_of_size_eq_zero hl
 refine(adA w).mono ?_
 rintro e w' ⟨rfl,h⟩
 exact⟨_,rfl,@dG.c dI dN _ _ _,h⟩
namespace LN
section
variable {A:Nat→Prop} {w0:World} {a0:Act} {qq paid part:Int} {z:List Int}
theorem toE {o o3:Option (RT Out)} (rP:RD o o3) (hz:z.length≤9223372036854775807) {n p prc asked:Int} (hn:1≤n∧n≤50) (hpr:0≤prc∧prc≤10000) (has:0≤asked∧asked≤10000) (hp:0≤p∧p≤4999) {S:bH} {os:List (List Int)} {k:Nat} (hlen:os.length=k) (hk:k≤20) (h6:z.length≤6) (hS:Ck 15 [lMD] S.av) {Φ:jA}
  (kk:∀mm w a,@eU dI dN A w0 a0 mm w a (f3 n p prc asked k 0) (eZ (sB S os))→(Code.loop (aF o3)).wpIn (fw none) 9 Tryz.prog (KS Tryz.prog (oK o3) Φ) a w)
  (mm:Nat→St) (w:World) (a:Act) (pr:@eU dI dN A w0 a0 mm w a (f2 qq paid part z n p prc asked k z.length) (eZ (oB (iG os)))):KS Tryz.prog (oK o) Φ (AX.exit 2).to a w:=by
 have hzl:=Bo os;exact rP.go (ev1 _ [(z.length:Int),n,(k:Int),prc,asked] [.I qq,.I paid,.I part,.I p,.I S.aB,.I S.aD,.I S.done] [aA z,iG os,bN S.aH,aA S.weights,dM S.methods,dM S.iC,kW S.bX,gD S.aU,gY S.aM] .nil) (xK (kc hS kn)) pr (fd:=f3 n p prc asked k 0) (bd:=sB S os) kk
theorem to6 {o o3:Option (RT Out)} (rP:RE o o3) (hz:z.length≤9223372036854775807) {n p prc asked:Int} (hn:1≤n∧n≤50) (hpr:0≤prc∧prc≤10000) (has:0≤asked∧asked≤10000) (hp:0≤p∧p≤4999) {S:bH} {os:List (List Int)} {k:Nat} (hlen:os.length=k) (hk:k≤20) (h6:6<z.length) (hS:Ck 15 [lMD] S.av) {Φ:jA}
  (kk:∀mm w a,@eU dI dN A w0 a0 mm w a (f3 n p prc asked k 0) (eZ (sB S os))→(Code.loop (aF o3)).wpIn (fw none) 9 Tryz.prog (KS Tryz.prog (oK o3) Φ) a w)
  (mm:Nat→St) (w:World) (a:Act) (pr:@eU dI dN A w0 a0 mm w a (f2 qq paid part z n p prc asked k 6) (eZ (oB (iG os)))):KS Tryz.prog (oK o) Φ (AX.exit 2).to a w:=by
 have hzl:=Bo os;exact rP.go (ev1 _ [(z.length:Int),n,(k:Int),prc,asked] [.I qq,.I paid,.I part,.I p,.I S.aB,.I S.aD,.I S.done] [aA z,iG os,bN S.aH,aA S.weights,dM S.methods,dM S.iC,kW S.bX,gD S.aU,gY S.aM] .nil) (xK (kc hS kn)) pr (fd:=f3 n p prc asked k 0) (bd:=sB S os) kk
end
theorem walk (oA oA2 oPe oP6:Option (RT Out)) (rA:agx body oA) (r0:acq (aF oA)) (r1:acp (aF oA)) (r2:aco (aF oA)) (rX:acn (aF oA)) (rA2:Ls oA oA2) (rF:acm (aF oA2)) (r5z:Lq (aF oA2)) (r5k:Lr (aF oA2)) (rez:Lo (aF oA2)) (rek:Lp (aF oA2)) (rXe:RF (aF oA2)) (rX6:RG (aF oA2)) (rPe:RD oA2 oPe) (rP6:RE oA2 oP6)
  (sR:NI (aF oPe)) (sX:NH (aF oPe)) (sr:H6 oPe) (tR:NI (aF oP6)) (tX:NH (aF oP6)) (tr:H6 oP6) {qq paid part:Int} {z:List Int} (hq:iM qq) (hp:iM paid) (ht:iM part) (hz:z.length≤9223372036854775807) (hI:eN z) :
  Ck 4 [.i qq,.i paid,.lit 1 (aA z),.i part] WP:=by
 have cq:=BU qq 50;have cp:=BU paid 5000;have q0:=Int.emod_nonneg qq (show(50:Int)≠0 by decide)
 have q1:=Int.emod_lt_of_pos qq (show(0:Int)<50 by decide)
 have p0:=Int.emod_nonneg paid (show(5000:Int)≠0 by decide)
 have p1:=Int.emod_lt_of_pos paid (show(0:Int)<5000 by decide)
 generalize qq%50=q at *
 generalize paid%5000=p at *
 have ck:=BU part (1+(1+q)) (by omega) (by omega)
 have k0:=Int.emod_nonneg part (show(1+(1+q):Int)≠0 by omega)
 have k1:=Int.emod_lt_of_pos part (show(0:Int)<1+(1+q)by omega)
 generalize part%(1+(1+q))=kk at *
 obtain⟨n,hn⟩:∃n,n=1+q:=⟨_,rfl⟩
 have hnb:1≤n∧n≤50:=by omega
 refine CK.jJ Tryz.func4 (c:=body) (by kernel_rfl) (EE.out) (GQ.out) fun A w0 a0=>?_
 intro mm w a pr;rw[Tryz.ntmps4]at pr;refine rA.go (ev1 _ [(z.length:Int)] [.I qq,.I paid,.I part] [aA z] .nil) (xK kn) pr (fd:=nF (.i qq) (.i paid) (.lit 1 (aA z)) (.i part) (.i 0)) (bd:=mb0) ?_
 refine ahV r0 r1 r2 rX rA2 hz (by omega) (by omega) cq cp ?_
 rw[←hn]at ck ⊢;have bd:=CA p z;have fin:∀i:Nat,i=min 6 z.length→Rest (Good n p (oC p z i) (oC p z i-p)) L3.start (MQ n p kk z i):=by
  rintro i rfl
  have b6:=bd (min 6 z.length)
  exact L3.aee hnb ⟨p0,by omega⟩ ⟨k0,by omega⟩ fun S h=>L3.ake hnb ⟨p0,b6.1⟩ (by omega) h
 refine ops rF r5z r5k rez rek rXe rX6 hz hnb ⟨p0,by omega⟩ ⟨k0,by omega⟩ ck ?_ ?_
 ·intro k mm w a hlen h6 pr
  have b6:=bd z.length;have hl:=Ek n p kk z z.length;have h8:=H7 n p kk z z.length;have R:=fin z.length (by omega)
  generalize MQ n p kk z z.length=os at *;generalize oC p z z.length=prc at *;refine toE rPe hz hnb (by omega) (by omega) ⟨p0,by omega⟩ hlen (by omega) h6 Is ?_ mm w a pr
  rw[←hlen];exact steps sR sX sr hnb ⟨p0,by omega⟩ (by omega) (by omega) (by omega) It h8 R
 ·intro k mm w a hlen h6 pr
  have b6:=bd 6;have hl:=Ek n p kk z 6;have h8:=H7 n p kk z 6;have R:=fin 6 (by omega)
  generalize MQ n p kk z 6=os at *;generalize oC p z 6=prc at *;refine to6 rP6 hz hnb (by omega) (by omega) ⟨p0,by omega⟩ hlen (by omega) h6 Is ?_ mm w a pr
  rw[←hlen];exact steps tR tX tr hnb ⟨p0,by omega⟩ (by omega) (by omega) (by omega) It h8 R
end LN
theorem Dm (q paid:Int) (a1:Option Addr) (len1 cap1:Nat) (z1:List Int) (part:Int) (w:World) (w0:iM q) (w1:iM paid) (w2:Row w 1 a1 len1 cap1 z1) (w3:iM part) :
  Calls Tryz.prog 4 #[.int .i64 q,.int .i64 paid,.slice a1 len1 cap1,.int .i64 part] w fun e w'=>e=.returned (.bool true)∧Below w.heap.size w w':=by
 have e1:=w2.len;have e2:=w2.le;have e3:=w2.max
 simp only[maxLen]at e3;refine Pe (LN.walk LN.A6 LN.mX LN.Cx LN.Cy LN.aiL LN.aiO LN.aiN LN.aiM LN.aiK LN.ahg LN.aiJ LN.aeF LN.aeG LN.aeD LN.aeE LN.ahe LN.ahf LN.ahc LN.ahd LN.aiI LN.aiH LN.aiG LN.ahb LN.aha LN.ag9 w0 w1 w3 (z:=z1) (by omega) w2.all) w _ rfl ?_
 intro i x hx;rcases(by omega:i=0∨i=1∨i=2∨i=3∨4≤i)with rfl|rfl|rfl|rfl|hi
 ·cases hx;exact @dG.c dI dN _ _ _
 ·cases hx;exact @dG.c dI dN _ _ _
 ·cases hx;exact ab7 w2
 ·cases hx;exact @dG.c dI dN _ _ _
 ·rw[List.getElem?_eq_none hi]at hx;cases hx
end
end Go.Proofs.YtnepgggkgnckcaaGreat
