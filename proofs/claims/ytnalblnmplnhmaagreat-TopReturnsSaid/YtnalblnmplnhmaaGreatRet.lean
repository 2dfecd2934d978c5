/-
 TopReturns: the whole law, by how many sales there are; the steps as they come: one book for all numbers of sales, by functions.
-/
import Derived.Test.YtnalblnmplnhmaaGreatZ
import Derived.Test.YtnalblnmplnhmaaGreatTl0
import Derived.Test.YtnalblnmplnhmaaGreatPstart
set_option linter.unusedVariables false
set_option linter.unusedSimpArgs false
namespace Go.Proofs.YtnalblnmplnhmaaGreat
open Go.RowKit Mc
namespace Rt
structure RD where
 P:List PoolD
 b:List Int
 r:List Int
 rc:List RcD
 sa:List SaD
 d:Int
abbrev rA (m:Int) (s:RD):AV:=oneA m 10 s.P (intsR s.b) s.r (rcsR s.rc) (sasR s.sa) s.d
abbrev n1:AV:=.e [([],1),([3],1)]
abbrev n10:AV:=.e [([],10),([3],10)]
abbrev stX (P B R A RC SA TR d:AV):AV:=.agg [.i 1,.i 4,.lit 1 [[.i 1]],.lit 1 [[.lit 1 [[.e [([],1),([2],1)]]]]],.lit 1 [[.lit 1 [[.i 10]]]],.lit 8 [[.i 1,.c (.bool false),P,B,R,.lit 1 [[.i (-1)]],.lit 1 [[.i 0]],A]],RC,SA,TR,d]
abbrev stY (m:Int) (P B R RC SA:List (List AV)) (d:Value):AV:=.agg [.i 1,.i 4,.lit 1 [[.i 1]],.lit 1 [[.lit 1 [[.i m]]]],.lit 1 [[.lit 1 [[.i 10]]]],.lit 8 [[.i 1,.c (.bool false),.lit 4 P,.lit 1 B,.lit 11 R,.lit 1 [[.i (-1)]],.lit 1 [[.i 0]],.lit 8 []]],.lit 8 RC,.lit 9 SA,.lit 6 [],.c d]
abbrev rN (j:Nat):AV:=stX (.q 4 (5*j+1)) (.q 1 (5*j+2)) (.q 11 (5*j+3)) (.lit 8 []) (.q 8 (5*j+4)) (.q 9 (5*j+5)) (.lit 6 []) (.o j)
abbrev oN (k:Int) (q a:AV) (r:Int):AV:=.agg [.i k,.i 0,.i 0,.i 0,.i 0,q,a,.i r,.emp]
abbrev z0 (x:AV):AV:=.lit 4 [[x,.i 0,.i 0,.i 0],[x,.i 0,.i 0,.i 0]]
abbrev st0:AV:=stX (z0 .emp) (.lit 1 (List.replicate 17 [.i 0])) (.lit 11 [List.replicate 11 (.i 0)]) .emp .emp .emp .emp (.i 0)
abbrev st1:AV:=stX (z0 (.lit 3 [])) (.lit 1 (List.replicate 17 [.i 0])) (.lit 11 [List.replicate 11 (.i 0)]) (.lit 8 []) (.lit 8 []) (.lit 9 []) (.lit 6 []) (.i 0)
abbrev qN (L i:Nat):AV:=.e [([],1),([5+(L+i)],1)]
abbrev pE (L i:Nat):Nat×List AV×AV:=(9,[.v (5+i),n1],.v (5+(L+i)))
abbrev sE (L i:Nat):Nat×List AV×AV:=(11,[rN (2*i),oN 4 (qN L i) (.i 3) 0],.tup [rN (2*i+1),.i 0])
abbrev tE (L i:Nat):Nat×List AV×AV:=(11,[rN (2*i+1),oN 5 (qN L i) (.i 3) i],.tup [rN (2*i+2),.i 0])
abbrev aE' (i:Nat):Nat×Poly×List AV:=(0,plit i,[.v (5+i)])
abbrev bR (L:Nat) (lo hi:Int):Bk:={ vars:=[w64,w64,(0,3),(0,99),(lo,hi)]++(List.replicate L w64++List.replicate L (0,99)),yes:=[13],lens:=[(0,[([4],1)]),(5*(2*L)+2,[([],17)])],ats:=(5*(2*L)+2,[([],5)],[.i 0])::(5*(2*L)+2,[([],4)],[.i 0])::(5*(2*L)+2,[([],3)],[.i 0])::(5*(2*L)+2,[],[n10])::(List.range L).map aE',extV:=(9,[.v 0,.i 4],.v 2)::(9,[.v 1,.i 100],.v 3)::(11,[st0,oN 1 n1 n10 0],.tup [rN 0,.i 0])::(15,[rN (2*L),.i 0,.i 0],.agg [n1,n10,.i 0])::((List.range L).map (pE L)++((List.range L).map (sE L)++(List.range L).map (tE L))) }
def sL:Nat→(Nat→RD)→List (List (List AV))
 |0,_=>[]
 |n+1,S=>poolsR (S 0).P::intsR (S 0).b::rollsR [(S 0).r]::rcsR (S 0).rc::sasR (S 0).sa::sL n (fun j=>S (j+1))
theorem sg:∀(n j:Nat) (S:Nat→RD),j<n→(sL n S).getD (5*j) []=poolsR (S j).P∧(sL n S).getD (5*j+1) []=intsR (S j).b∧(sL n S).getD (5*j+2) []=rollsR [(S j).r]∧(sL n S).getD (5*j+3) []=rcsR (S j).rc∧(sL n S).getD (5*j+4) []=sasR (S j).sa
 |0,_,_,h=>by omega
 |_+1,0,_,_=>⟨rfl,rfl,rfl,rfl,rfl⟩
 |n+1,j+1,S,h=>sg n j (fun j=>S (j+1)) (by omega)
instance clsL:∀(n:Nat) (S:Nat→RD),ClS (sL n S)
 |0,_=>⟨spl_nil⟩
 |n+1,S=>by
  have:=clsL n (fun j=>S (j+1))
  unfold sL;infer_instance
theorem kmap {P:Program} {b:Bk} {ev:@Ev b} {f:Nat→Nat×List AV×AV} (L:Nat) (h:∀i,i<L→@KnOk b ev P (f i).1 (f i).2.1 (f i).2.2):@KnL b ev P ((List.range L).map f):=fun k xa r hm=>by
 obtain⟨i,hi,he⟩:=List.mem_map.1 hm
 have:=h i (List.mem_range.1 hi)
 rw[he]at this;exact this
theorem kapp {P:Program} {b:Bk} {ev:@Ev b} {l r:List (Nat×List AV×AV)} (h:@KnL b ev P l) (g:@KnL b ev P r):@KnL b ev P (l++r):=fun k xa x hm=>(List.mem_append.1 hm).elim (h k xa x) (g k xa x)
theorem bapp {l r:List (Int×Int)} {x y:List Int} (h:BndL l x) (g:BndL r y):BndL (l++r) (x++y):=by
 induction h with
 |nil=>exact g
 |cons h1 h2 _ ih=>exact .cons h1 h2 ih
theorem brep {a c:Int} {f:Nat→Int}:∀(L:Nat),(∀i,i<L→a≤f i∧f i≤c)→BndL (List.replicate L (a,c)) ((List.range L).map f)
 |0,_=>.nil
 |L+1,h=>by
  rw[List.replicate_succ',List.range_succ,List.map_append]
  exact bapp (brep L fun i hi=>h i (by omega)) (.cons (h L (by omega)).1 (h L (by omega)).2 .nil)
theorem ats_of {ρ:Nat→Int} {vl:Nat→Value} {ss:List (List (List AV))}:∀(l:List (Nat×Poly×List AV)),(∀t∈l,0≤pev ρ t.2.1∧(ss.getD t.1 [])[(pev ρ t.2.1).toNat]?=some (t.2.2.map (denW ρ vl (fun i=>ss.getD i []) 12))∧t.2.2.all (noUps 12)=true)→AtsL ρ vl ss l
 |[],_=>.nil
 |t::l,h=>by
  have g:=h t (List.mem_cons_self ..)
  exact .cons g.1 g.2.1 rfl g.2.2 (ats_of l fun u hu=>h u (List.mem_cons_of_mem _ hu))
theorem g1 {a b c d e:Int} {l:List Int} (i:Nat):([a,b,c,d,e]++l).getD (5+i) 0=l.getD i 0:=by
 rw[Nat.add_comm];rfl
theorem g2 {f:Nat→Int} {l:List Int} {i L:Nat} (h:i<L):((List.range L).map f++l).getD i 0=f i:=by
 simp[List.getD_eq_getElem?_getD,List.getElem?_append,h]
theorem g3 {f g:Nat→Int} {i L:Nat} (h:i<L):((List.range L).map f++(List.range L).map g).getD (L+i) 0=g i:=by
 simp[List.getD_eq_getElem?_getD,List.getElem?_append,h]
theorem g4 {f:Nat→Value} {i L:Nat} (h:i<L):((List.range L).map f).getD i (.bool false)=f i:=by
 simp[List.getD_eq_getElem?_getD,h]
set_option maxHeartbeats 2000000 in
theorem ret (L:Nat) (la lb:Int) {me qe n m tn:Int} {z:List Int} {v k:Nat→Int} {S:Nat→RD} (hme:I64 me) (hqe:I64 qe) (hlo:la≤z.length) (hhi:z.length≤lb) (h_n:n=1+qe%100) (h_m:m=1+me%4) (h_tn:tn=10+10*(qe%100))
  (hv:∀i,i<L→I64 (v i)) (hx:∀i,i<L→z[i]?=some (v i)) (hk:∀i,i<L→0≤k i∧k i≤99) (hp:∀i,i<L→Ck 9 [.i (v i),.i n] (.i (k i)))
  (h0:Ck 11 [oneA m 10 [⟨[],0,0,0⟩,⟨[],0,0,0⟩] (intsR zeros17) zeros11 [] [] 0,opAv 1 0 0 0 0 n tn 0] (.tup [rA m (S 0),.i 0]))
  (hs:∀i,i<L→Ck 11 [rA m (S (2*i)),opAv 4 0 0 0 0 (1+k i) 3 0] (.tup [rA m (S (2*i+1)),.i 0]))
  (ht:∀i:Nat,i<L→Ck 11 [rA m (S (2*i+1)),opAv 5 0 0 0 0 (1+k i) 3 i] (.tup [rA m (S (2*i+2)),.i 0]))
  (hW:Ck 15 [rA m (S (2*L)),.i 0,.i 0] (Lay.av ⟨n,tn,0⟩))
  (hbl:(S (2*L)).b.length=17) (hb5:(S (2*L)).b[5]?=some 0) (hb4:(S (2*L)).b[4]?=some 0) (hb3:(S (2*L)).b[3]?=some 0) (hb0:(S (2*L)).b[0]?=some tn)
  (hrun:@runsTo (bR L la lb) Tryz.prog 100000 60 4 [.v 0,.v 1,.q 1 0] (.c (.bool true))=true) :
  Ck 4 [.i me,.i qe,.lit 1 (intsR z)] (.c (.bool true)):=by
 have:=hme.lo;have:=hme.hi;have:=hqe.lo;have:=hqe.hi
 generalize hxs:[me,qe,me%4,qe%100,(z.length:Int)]++((List.range L).map v++(List.range L).map k)=xs
 have x2:xs.getD 2 0=me%4:=by rw[←hxs];rfl
 have x3:xs.getD 3 0=qe%100:=by rw[←hxs];rfl
 have x4:xs.getD 4 0=z.length:=by rw[←hxs];rfl
 have xv:∀i,i<L→xs.getD (5+i) 0=v i:=fun i hi=>by rw[←hxs,g1,g2 hi]
 have xk:∀i,i<L→xs.getD (5+(L+i)) 0=k i:=fun i hi=>by rw[←hxs,g1,g3 hi]
 have em:evP (fun i=>xs.getD i 0) [([],1),([2],1)]=m:=by rw[evP_eq];simp only[pev,mev,List.map,List.foldl,List.foldr,List.sum_cons,List.sum_nil];rw[x2];omega
 have en:evP (fun i=>xs.getD i 0) [([],1),([3],1)]=n:=by rw[evP_eq];simp only[pev,mev,List.map,List.foldl,List.foldr,List.sum_cons,List.sum_nil];rw[x3];omega
 have et:evP (fun i=>xs.getD i 0) [([],10),([3],10)]=tn:=by rw[evP_eq];simp only[pev,mev,List.map,List.foldl,List.foldr,List.sum_cons,List.sum_nil];rw[x3];omega
 have eq:∀i,i<L→evP (fun i=>xs.getD i 0) [([],1),([5+(L+i)],1)]=1+k i:=fun i hi=>by rw[evP_eq];simp only[pev,mev,List.map,List.foldl,List.foldr,List.sum_cons,List.sum_nil];rw[xk i hi];omega
 have x0:xs.getD 0 0=me:=by rw[←hxs];rfl
 have x1:xs.getD 1 0=qe:=by rw[←hxs];rfl
 generalize hvs:(List.range (2*L+1)).map (fun j=>Value.int .i64 (S j).d)=vs
 generalize hss:intsR z::sL (2*L+1) S=ss
 have cs:ClS ss:=by rw[←hss];infer_instance
 have s0:ss.getD 0 []=intsR z:=by rw[←hss];rfl
 have dS:∀q,q=11∨q=12→∀j,j<2*L+1→denW (fun i=>xs.getD i 0) (fun i=>vs.getD i (.bool false)) (fun i=>ss.getD i []) q (rN j)=rA m (S j):=fun q hq j hj=>by
  obtain⟨a,b,c,d,e⟩:=sg (2*L+1) j S hj
  have h:denW (fun i=>xs.getD i 0) (fun i=>vs.getD i (.bool false)) (fun i=>ss.getD i []) q (rN j)=stY (evP (fun i=>xs.getD i 0) [([],1),([2],1)]) (ss.getD (5*j+1) []) (ss.getD (5*j+2) []) (ss.getD (5*j+3) []) (ss.getD (5*j+4) []) (ss.getD (5*j+5) []) (vs.getD j (.bool false)):=by rcases hq with rfl|rfl<;>rfl
  rw[h,em,←hss,←hvs,g4 hj]
  simp only[List.getD_cons_succ]
  rw[a,b,c,d,e];rfl
 have bss:ss.getD (5*(2*L)+2) []=intsR (S (2*L)).b:=by
  rw[←hss,List.getD_cons_succ];exact(sg (2*L+1) (2*L) S (by omega)).2.1
 have hb:BndL (bR L la lb).vars xs:=by
  rw[←hxs]
  exact bapp (BndL.nil.c.c.c.c.c) (bapp (brep L fun i hi=>by have:=(hv i hi).lo;have:=(hv i hi).hi;omega) (brep L hk))
 have hl:LenL (fun i=>xs.getD i 0) ss (bR L la lb).lens:=by
  refine LenL.cons ?_ (LenL.cons ?_ LenL.nil)
  ·rw[s0,show pev (fun i=>xs.getD i 0) [([4],1)]=xs.getD 4 0 by simp[pev,mev],x4];simp[intsR]
  ·rw[bss];simp[pev,mev,intsR,hbl]
 have ha:AtsL (fun i=>xs.getD i 0) (fun i=>vs.getD i (.bool false)) ss (bR L la lb).ats:=by
  refine .d (by rw[bss];exact aK hb5) (.d (by rw[bss];exact aK hb4) (.d (by rw[bss];exact aK hb3) (.d (by rw[bss];exact az hb0) (ats_of _ fun t ht=>?_) (h2:=by show[AV.i (evP (fun i=>xs.getD i 0) [([],10),([3],10)])]=_;rw[et]))))
  obtain⟨i,hi,rfl⟩:=List.mem_map.1 ht
  have hi:=List.mem_range.1 hi
  show 0≤pev _ (plit i)∧(ss.getD 0 [])[(pev _ (plit i)).toNat]?=some [AV.i (xs.getD (5+i) 0)]∧_
  rw[pev_plit,xv i hi,s0]
  exact⟨by omega,by rw[Int.toNat_natCast];exact gIntsAt (hx i hi),rfl⟩
 let ev:=evS (bR L la lb) xs vs ss hb FctL.nil hl ha (ho:=by rw[←hvs];simp[Value.oneCell'])
 have dm:∀i,i<L→∀kk r:Int,@den (bR L la lb) ev 12 (oN kk (qN L i) (.i 3) r)=opAv kk 0 0 0 0 (1+k i) 3 r:=fun i hi kk r=>by
  show opAv kk 0 0 0 0 (evP (fun i=>xs.getD i 0) [([],1),([5+(L+i)],1)]) 3 r=_
  rw[eq i hi]
 refine CK.way _ ev [.v 0,.v 1,.q 1 0] (.c (.bool true)) hrun (kc (ck_Place me 4) (kc (ck_Place qe 100) (kc (CK.weakA _ ev (xs:=[st0,oN 1 n1 n10 0]) (ys:=[st1,oN 1 n1 n10 0]) h0 ?_ rfl rfl) (kc hW (kapp (kmap L fun i hi=>CK.named _ ev (hp i hi) ?_ ?_ rfl) (kapp (kmap L fun i hi=>CK.named _ ev (hs i hi) ?_ ?_ rfl) (kmap L fun i hi=>CK.named _ ev (ht i hi) ?_ ?_ rfl))) ?_ ?_) (er:=?_)) ?_ ?_) ?_ ?_) (hy:=yeCons _ ev tl_awake (yeNil _ ev)) (ea:=?_)
 ·show[oneA (evP (fun i=>xs.getD i 0) [([],1),([2],1)]) 10 [⟨[],0,0,0⟩,⟨[],0,0,0⟩] (intsR zeros17) zeros11 [] [] 0,opAv 1 0 0 0 0 (evP (fun i=>xs.getD i 0) [([],1),([3],1)]) (evP (fun i=>xs.getD i 0) [([],10),([3],10)]) 0]=_
  rw[em,en,et]
 ·show[AV.i (xs.getD (5+i) 0),AV.i (evP (fun i=>xs.getD i 0) [([],1),([3],1)])]=_
  rw[xv i hi,en]
 ·show AV.i (xs.getD (5+(L+i)) 0)=_
  rw[xk i hi]
 ·show[@den (bR L la lb) ev 12 (rN (2*i)),@den (bR L la lb) ev 12 (oN 4 (qN L i) (.i 3) 0)]=_
  rw[dm i hi,show @den (bR L la lb) ev 12 (rN (2*i))=_ from dS 12 (.inr rfl) _ (by omega)]
 ·show AV.tup [denW (fun i=>xs.getD i 0) (fun i=>vs.getD i (.bool false)) (fun i=>ss.getD i []) 11 (rN (2*i+1)),.i 0]=_
  rw[dS 11 (.inl rfl) _ (by omega)]
 ·show[@den (bR L la lb) ev 12 (rN (2*i+1)),@den (bR L la lb) ev 12 (oN 5 (qN L i) (.i 3) i)]=_
  rw[dm i hi,show @den (bR L la lb) ev 12 (rN (2*i+1))=_ from dS 12 (.inr rfl) _ (by omega)]
 ·show AV.tup [denW (fun i=>xs.getD i 0) (fun i=>vs.getD i (.bool false)) (fun i=>ss.getD i []) 11 (rN (2*i+2)),.i 0]=_
  rw[dS 11 (.inl rfl) _ (by omega)]
 ·show[@den (bR L la lb) ev 12 (rN (2*L)),.i 0,.i 0]=_
  rw[show @den (bR L la lb) ev 12 (rN (2*L))=_ from dS 12 (.inr rfl) _ (by omega)]
 ·show AV.agg [.i (evP (fun i=>xs.getD i 0) [([],1),([3],1)]),.i (evP (fun i=>xs.getD i 0) [([],10),([3],10)]),.i 0]=_
  rw[en,et];rfl
 ·show AV.tup [denW (fun i=>xs.getD i 0) (fun i=>vs.getD i (.bool false)) (fun i=>ss.getD i []) 11 (rN 0),.i 0]=_
  rw[dS 11 (.inl rfl) _ (by omega)]
 ·show[AV.i (xs.getD 1 0),.i 100]=_
  rw[x1]
 ·show AV.i (xs.getD 3 0)=_
  rw[x3]
 ·show[AV.i (xs.getD 0 0),.i 4]=_
  rw[x0]
 ·show AV.i (xs.getD 2 0)=_
  rw[x2]
 ·show[AV.i (xs.getD 0 0),AV.i (xs.getD 1 0),.lit 1 (ss.getD 0 [])]=_
  rw[x0,x1,s0]
abbrev Runs (L:Nat) (la lb:Int):Prop:=@runsTo (bR L la lb) Tryz.prog 100000 60 4 [.v 0,.v 1,.q 1 0] (.c (.bool true))=true
theorem run_0:Runs 0 0 0:=by decide +kernel
theorem run_1:Runs 1 1 1:=by decide +kernel
theorem run_2:Runs 2 2 2:=by decide +kernel
theorem run_3:Runs 3 3 3:=by decide +kernel
theorem run_4:Runs 4 4 4:=by decide +kernel
theorem run_5:Runs 5 5 5:=by decide +kernel
theorem run_6:Runs 6 6 6:=by decide +kernel
theorem run_7:Runs 7 7 7:=by decide +kernel
theorem run_8:Runs 8 8 8:=by decide +kernel
theorem run_9:Runs 9 9 9:=by decide +kernel
theorem run_10:Runs 10 10 10:=by decide +kernel
theorem run_11:Runs 11 11 11:=by decide +kernel
theorem run_12:Runs 12 12 12:=by decide +kernel
theorem run_13:Runs 12 13 9223372036854775807:=by decide +kernel
end Rt
end Go.Proofs.YtnalblnmplnhmaaGreat
