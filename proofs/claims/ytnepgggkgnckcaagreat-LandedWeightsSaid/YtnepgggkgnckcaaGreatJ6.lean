/-
 Texts joined and made small by wip/small.sh.
-/
import Derived.Test.YtnepgggkgnckcaaGreatJ5
import Derived.BigQuiet
import Derived.Test.YtnepgggkgnckcaaGreatProg
set_option linter.unusedVariables false
set_option linter.unusedSimpArgs false
namespace Go.Proofs.YtnepgggkgnckcaaGreat
open Go.RowKit
section
open Mc
set_option maxRecDepth 1000000
def qM (dst a:Int) (refs:List Int):AV:=.agg [.i 11,.i 0,.i 0,.i 0,.i dst,.i 0,.i a,.i 0,.lit 1 (aA refs)]
instance (d a:Int) (l:List Int):yC (qM d a l):=⟨(inferInstance:yC (.agg [.i 11,.i 0,.i 0,.i 0,.i d,.i 0,.i a,.i 0,.lit 1 (aA l)])).out⟩
def dM (S:bL) (r:bL×Int):bL×Int:=if r.2=0 then({ r.1 with done:=1+r.1.done },0)else(S,r.2)
theorem iX (T:bL):({ T with done:=1+T.done }:bL).av=.agg [.i T.aB,.i T.aD,.lit 1 (aA T.weights),.lit 1 (aO T.methods),.lit 1 (aO T.cP),.lit 8 (aN T.bG),.lit 8 (gH T.aH),.lit 9 (cR T.aM),.lit 6 (gG T.bK),.i (1+T.done)]:=rfl
section
variable {e item loc dst q a ref r0 r1 r2:Int}
theorem akI (hE:0≤e∧e≤3) (hI:0≤item∧item≤4) (hL:0≤loc∧loc≤1) (hQ:1≤q∧q≤1073741824) (hA:0≤a∧a≤1073741824):Ck 22 [dC 1 e item loc 0 q a 0] Kcm:=cw _ (ev1 { vars:=WR } [e,item,loc,q,a] [] [] .nil) [(.agg [.i 1,.v 0,.v 1,.v 2,.i 0,.v 3,.v 4,.i 0,.emp])] Kcm kn
theorem akH (hQ:1≤q∧q≤1073741824) (hA:0≤a∧a≤1073741824) (hR:0≤ref∧ref≤39):Ck 22 [dC 2 0 0 0 0 q a ref] Kcm:=cw _ (ev1 { vars:=GX } [q,a,ref] [] [] .nil) [(.agg [.i 2,.i 0,.i 0,.i 0,.i 0,.v 0,.v 1,.v 2,.emp])] Kcm kn
theorem akG (hQ:1≤q∧q≤1073741824) (hR:0≤ref∧ref≤39):Ck 22 [dC 3 0 0 0 0 q 0 ref] Kcm:=cw _ (ev1 { vars:=[(1,1073741824),(0,39)] } [q,ref] [] [] .nil) [(.agg [.i 3,.i 0,.i 0,.i 0,.i 0,.v 0,.i 0,.v 1,.emp])] Kcm kn
theorem akF (hE:0≤e∧e≤3) (hI:0≤item∧item≤4) (hL:0≤loc∧loc≤1) (hQ:1≤q∧q≤1073741824) (hA:0≤a∧a≤1073741824):Ck 22 [dC 4 e item loc 0 q a 0] Kcm:=cw _ (ev1 { vars:=WR } [e,item,loc,q,a] [] [] .nil) [(.agg [.i 4,.v 0,.v 1,.v 2,.i 0,.v 3,.v 4,.i 0,.emp])] Kcm kn
theorem akE (hQ:1≤q∧q≤1073741824) (hA:0≤a∧a≤1073741824) (hR:0≤ref∧ref≤39):Ck 22 [dC 5 0 0 0 0 q a ref] Kcm:=cw _ (ev1 { vars:=GX } [q,a,ref] [] [] .nil) [(.agg [.i 5,.i 0,.i 0,.i 0,.i 0,.v 0,.v 1,.v 2,.emp])] Kcm kn
theorem akD (hE:0≤e∧e≤3) (hI:0≤item∧item≤4) (hL:0≤loc∧loc≤1) (hQ:1≤q∧q≤1073741824):Ck 22 [dC 6 e item loc 0 q 0 0] Kcm:=cw _ (ev1 { vars:=[(0,3),(0,4),(0,1),(1,1073741824)] } [e,item,loc,q] [] [] .nil) [(.agg [.i 6,.v 0,.v 1,.v 2,.i 0,.v 3,.i 0,.i 0,.emp])] Kcm kn
theorem akC (hE:0≤e∧e≤3) (hI:0≤item∧item≤4) (hL:0≤loc∧loc≤1) (hQ:0≤q∧q≤1073741824):Ck 22 [dC 7 e item loc 0 q 0 0] Kcm:=by
 rcases(by omega:q=0∨1≤q)with h|h
 ·exact cw _ (ev1 { vars:=D5,facts:=[([([3],1)],0,0)] } [e,item,loc,q] [] [] .nil) VC Kcm kn
 ·exact cw _ (ev1 { vars:=D5,facts:=[([([3],1)],1,1073741824)] } [e,item,loc,q] [] [] .nil) VC Kcm kn
theorem akB (hE:0≤e∧e≤3) (hI:0≤item∧item≤4) (hL:0≤loc∧loc≤1) (hT:0≤dst∧dst≤1) (hQ:1≤q∧q≤1073741824) (hne:dst≠loc):Ck 22 [dC 8 e item loc dst q 0 0] Kcm:=by
 rcases(by omega:dst<loc∨loc<dst)with h|h
 ·exact cw _ (ev1 { vars:=GG,facts:=[(Kcg,-100,-1)] } [e,item,loc,dst,q] [] [] .nil) VD Kcm kn
 ·exact cw _ (ev1 { vars:=GG,facts:=[KaI] } [e,item,loc,dst,q] [] [] .nil) VD Kcm kn
theorem akA (hE:0≤e∧e≤3) (hI:0≤item∧item≤4) (hA:0≤a∧a≤1073741824):Ck 22 [dC 9 e item 0 0 0 a 0] Kcm:=cw _ (ev1 { vars:=[(0,3),(0,4),(0,1073741824)] } [e,item,a] [] [] .nil) [(.agg [.i 9,.v 0,.v 1,.i 0,.i 0,.i 0,.v 2,.i 0,.emp])] Kcm kn
theorem ah9 (hE:0≤e∧e≤3) (hI:0≤item∧item≤4) (hA:0≤a∧a≤1073741824):Ck 22 [dC 10 e item 0 0 0 a 0] Kcm:=cw _ (ev1 { vars:=[(0,3),(0,4),(0,1073741824)] } [e,item,a] [] [] .nil) [(.agg [.i 10,.v 0,.v 1,.i 0,.i 0,.i 0,.v 2,.i 0,.emp])] Kcm kn
theorem ah8 (hE:0≤e∧e≤3) (hI:0≤item∧item≤4) (hL:0≤loc∧loc≤1) (hT:0≤dst∧dst≤3) (hQ:1≤q∧q≤1073741824) (hA:0≤a∧a≤1073741824) (hne:dst≠e):Ck 22 [dC 12 e item loc dst q a 0] Kcm:=by
 rcases(by omega:dst<e∨e<dst)with h|h
 ·exact cw _ (ev1 { vars:=VE,facts:=[([([0],-1),([3],1)],-100,-1)] } [e,item,loc,dst,q,a] [] [] .nil) Vx Kcm kn
 ·exact cw _ (ev1 { vars:=VE,facts:=[([([0],-1),([3],1)],1,100)] } [e,item,loc,dst,q,a] [] [] .nil) Vx Kcm kn
theorem ah7 (hL:0≤loc∧loc≤1) (hQ:1≤q∧q≤1073741824) (hR:0≤ref∧ref≤39):Ck 22 [dC 13 0 0 loc 0 q 0 ref] Kcm:=cw _ (ev1 { vars:=[(0,1),(1,1073741824),(0,39)] } [loc,q,ref] [] [] .nil) [(.agg [.i 13,.i 0,.i 0,.v 0,.i 0,.v 1,.i 0,.v 2,.emp])] Kcm kn
theorem ah6 (hE:0≤e∧e≤3):Ck 22 [dC 14 e 0 0 0 0 0 0] Kcm:=cw _ (ev1 { vars:=[(0,3)] } [e] [] [] .nil) [(.agg [.i 14,.v 0,.i 0,.i 0,.i 0,.i 0,.i 0,.i 0,.emp])] Kcm kn
theorem ah5 (hE:0≤e∧e≤3):Ck 22 [dC 15 e 0 0 0 0 0 0] Kcm:=cw _ (ev1 { vars:=[(0,3)] } [e] [] [] .nil) [(.agg [.i 15,.v 0,.i 0,.i 0,.i 0,.i 0,.i 0,.i 0,.emp])] Kcm kn
theorem ah4 (hE:0≤e∧e≤3):Ck 22 [dC 16 e 0 0 0 0 0 0] Kcm:=cw _ (ev1 { vars:=[(0,3)] } [e] [] [] .nil) [(.agg [.i 16,.v 0,.i 0,.i 0,.i 0,.i 0,.i 0,.i 0,.emp])] Kcm kn
theorem acW (hT:0≤dst∧dst≤2) (hA:0≤a∧a≤1073741824) (b0:0≤r0∧r0≤39):Ck 22 [qM dst a [r0]] Kcm:=cw _ (ev1 { vars:=[(0,2),(0,1073741824),(0,39)] } [dst,a,r0] [] [] .nil) [(.agg [.i 11,.i 0,.i 0,.i 0,.v 0,.i 0,.v 1,.i 0,(.lit 1 [[.v 2]])])] Kcm kn
theorem acV (hT:0≤dst∧dst≤2) (hA:0≤a∧a≤1073741824) (b0:0≤r0∧r0≤39) (b1:0≤r1∧r1≤39) (hne:r1≠r0):Ck 22 [qM dst a [r0,r1]] Kcm:=by
 rcases(by omega:r0<r1∨r1<r0)with h|h
 ·exact cw _ (ev1 { vars:=Di,facts:=[KaI] } [dst,a,r0,r1] [] [] .nil) YF Kcm kn
 ·exact cw _ (ev1 { vars:=Di,facts:=[(Kcg,-100,-1)] } [dst,a,r0,r1] [] [] .nil) YF Kcm kn
theorem acU (hT:0≤dst∧dst≤2) (hA:0≤a∧a≤1073741824) (b0:0≤r0∧r0≤39) (b1:0≤r1∧r1≤39) (b2:0≤r2∧r2≤39) (h1:r0<r1) (h2:r1<r2):Ck 22 [qM dst a [r0,r1,r2]] Kcm:=cw _ (ev1 { vars:=[(0,2),(0,1073741824),(0,39),(0,39),(0,39)],facts:=[KaI,([([2],-1),([4],1)],1,100),([([3],-1),([4],1)],1,100)] } [dst,a,r0,r1,r2] [] [] .nil) [(.agg [.i 11,.i 0,.i 0,.i 0,.v 0,.i 0,.v 1,.i 0,(.lit 1 [[.v 2],[.v 3],[.v 4]])])] Kcm kn
theorem d_step1 {S:bL} {r:bL×Int} (hC:Ck 22 [dC 1 e item loc 0 q a 0] Kcm) (hD:Ck 87 [S.av,dC 1 e item loc 0 q a 0] (.bB [r.1.av,.i r.2])) (hE:fF r.2) (hT:0≤r.1.done∧r.1.done≤1000000) :
  Ck 16 [S.av,dC 1 e item loc 0 q a 0] (.bB [(dM S r).1.av,.i (dM S r).2]):=by
 obtain⟨T,f⟩:=r;dsimp only at *
 unfold dM;by_cases h0:f=0
 ·subst h0
  rw[if_pos rfl,iX];exact cw _ (ev1 { vars:=KcE,bN:=[Z8,(87,YG,Q3)] } [T.done] [.I S.aB,.I S.aD,.I S.done,.I e,.I item,.I loc,.I q,.I a,.I T.aB,.I T.aD] (sT S (sT T [])) .nil) YG Qi (kc hC (kc hD kn))
 ·rw[if_neg h0]
  exact cw _ (ev1 { vars:=Kb7,bN:=[Z8,(87,YG,Q4)] } [f,T.done] [.I S.aB,.I S.aD,.I S.done,.I e,.I item,.I loc,.I q,.I a,.I T.aB,.I T.aD] (sT S (sT T [])) .nil) YG D6 (kc hC (kc hD kn))
theorem ah0 {S:bL} {r:bL×Int} (hC:Ck 22 [dC 2 0 0 0 0 q a ref] Kcm) (hD:Ck 141 [S.av,dC 2 0 0 0 0 q a ref] (.bB [r.1.av,.i r.2])) (hE:fF r.2) (hT:0≤r.1.done∧r.1.done≤1000000) :
  Ck 16 [S.av,dC 2 0 0 0 0 q a ref] (.bB [(dM S r).1.av,.i (dM S r).2]):=by
 obtain⟨T,f⟩:=r;dsimp only at *
 unfold dM;by_cases h0:f=0
 ·subst h0
  rw[if_pos rfl,iX];exact cw _ (ev1 { vars:=KcE,bN:=[Z9,(141,YH,Q5)] } [T.done] [.I S.aB,.I S.aD,.I S.done,.I q,.I a,.I ref,.I T.aB,.I T.aD] (sT S (sT T [])) .nil) YH Qj (kc hC (kc hD kn))
 ·rw[if_neg h0]
  exact cw _ (ev1 { vars:=Kb7,bN:=[Z9,(141,YH,Q6)] } [f,T.done] [.I S.aB,.I S.aD,.I S.done,.I q,.I a,.I ref,.I T.aB,.I T.aD] (sT S (sT T [])) .nil) YH D6 (kc hC (kc hD kn))
theorem ahZ {S:bL} {r:bL×Int} (hC:Ck 22 [dC 3 0 0 0 0 q 0 ref] Kcm) (hD:Ck 141 [S.av,dC 3 0 0 0 0 q 0 ref] (.bB [r.1.av,.i r.2])) (hE:fF r.2) (hT:0≤r.1.done∧r.1.done≤1000000) :
  Ck 16 [S.av,dC 3 0 0 0 0 q 0 ref] (.bB [(dM S r).1.av,.i (dM S r).2]):=by
 obtain⟨T,f⟩:=r;dsimp only at *
 unfold dM;by_cases h0:f=0
 ·subst h0
  rw[if_pos rfl,iX];exact cw _ (ev1 { vars:=KcE,bN:=[Ya,(141,YI,(.bB [(.agg [.o 5,.o 6,.q 1 8,.q 1 9,.q 1 10,.q 8 7,.q 8 11,.q 9 12,.q 6 13,.v 0]),.i 0]))] } [T.done] [.I S.aB,.I S.aD,.I S.done,.I q,.I ref,.I T.aB,.I T.aD] (sT S (sT T [])) .nil) YI (.bB [(.agg [.o 5,.o 6,.q 1 8,.q 1 9,.q 1 10,.q 8 7,.q 8 11,.q 9 12,.q 6 13,KbQ]),.i 0]) (kc hC (kc hD kn))
 ·rw[if_neg h0]
  exact cw _ (ev1 { vars:=Kb7,bN:=[Ya,(141,YI,(.bB [(.agg [.o 5,.o 6,.q 1 8,.q 1 9,.q 1 10,.q 8 7,.q 8 11,.q 9 12,.q 6 13,.v 1]),.v 0]))] } [f,T.done] [.I S.aB,.I S.aD,.I S.done,.I q,.I ref,.I T.aB,.I T.aD] (sT S (sT T [])) .nil) YI D6 (kc hC (kc hD kn))
theorem ahY {S:bL} {r:bL×Int} (hC:Ck 22 [dC 4 e item loc 0 q a 0] Kcm) (hD:Ck 139 [S.av,dC 4 e item loc 0 q a 0] (.bB [r.1.av,.i r.2])) (hE:fF r.2) (hT:0≤r.1.done∧r.1.done≤1000000) :
  Ck 16 [S.av,dC 4 e item loc 0 q a 0] (.bB [(dM S r).1.av,.i (dM S r).2]):=by
 obtain⟨T,f⟩:=r;dsimp only at *
 unfold dM;by_cases h0:f=0
 ·subst h0
  rw[if_pos rfl,iX];exact cw _ (ev1 { vars:=KcE,bN:=[Yb,(139,YJ,Q3)] } [T.done] [.I S.aB,.I S.aD,.I S.done,.I e,.I item,.I loc,.I q,.I a,.I T.aB,.I T.aD] (sT S (sT T [])) .nil) YJ Qi (kc hC (kc hD kn))
 ·rw[if_neg h0]
  exact cw _ (ev1 { vars:=Kb7,bN:=[Yb,(139,YJ,Q4)] } [f,T.done] [.I S.aB,.I S.aD,.I S.done,.I e,.I item,.I loc,.I q,.I a,.I T.aB,.I T.aD] (sT S (sT T [])) .nil) YJ D6 (kc hC (kc hD kn))
theorem ahX {S:bL} {r:bL×Int} (hC:Ck 22 [dC 5 0 0 0 0 q a ref] Kcm) (hD:Ck 139 [S.av,dC 5 0 0 0 0 q a ref] (.bB [r.1.av,.i r.2])) (hE:fF r.2) (hT:0≤r.1.done∧r.1.done≤1000000) :
  Ck 16 [S.av,dC 5 0 0 0 0 q a ref] (.bB [(dM S r).1.av,.i (dM S r).2]):=by
 obtain⟨T,f⟩:=r;dsimp only at *
 unfold dM;by_cases h0:f=0
 ·subst h0
  rw[if_pos rfl,iX];exact cw _ (ev1 { vars:=KcE,bN:=[Yc,(139,YK,Q5)] } [T.done] [.I S.aB,.I S.aD,.I S.done,.I q,.I a,.I ref,.I T.aB,.I T.aD] (sT S (sT T [])) .nil) YK Qj (kc hC (kc hD kn))
 ·rw[if_neg h0]
  exact cw _ (ev1 { vars:=Kb7,bN:=[Yc,(139,YK,Q6)] } [f,T.done] [.I S.aB,.I S.aD,.I S.done,.I q,.I a,.I ref,.I T.aB,.I T.aD] (sT S (sT T [])) .nil) YK D6 (kc hC (kc hD kn))
theorem ahW {S:bL} {r:bL×Int} (hC:Ck 22 [dC 6 e item loc 0 q 0 0] Kcm) (hD:Ck 140 [S.av,dC 6 e item loc 0 q 0 0] (.bB [r.1.av,.i r.2])) (hE:fF r.2) (hT:0≤r.1.done∧r.1.done≤1000000) :
  Ck 16 [S.av,dC 6 e item loc 0 q 0 0] (.bB [(dM S r).1.av,.i (dM S r).2]):=by
 obtain⟨T,f⟩:=r;dsimp only at *
 unfold dM;by_cases h0:f=0
 ·subst h0
  rw[if_pos rfl,iX];exact cw _ (ev1 { vars:=KcE,bN:=[Yd,(140,YL,Q7)] } [T.done] [.I S.aB,.I S.aD,.I S.done,.I e,.I item,.I loc,.I q,.I T.aB,.I T.aD] (sT S (sT T [])) .nil) YL Qk (kc hC (kc hD kn))
 ·rw[if_neg h0]
  exact cw _ (ev1 { vars:=Kb7,bN:=[Yd,(140,YL,Q8)] } [f,T.done] [.I S.aB,.I S.aD,.I S.done,.I e,.I item,.I loc,.I q,.I T.aB,.I T.aD] (sT S (sT T [])) .nil) YL D6 (kc hC (kc hD kn))
theorem ahV {S:bL} {r:bL×Int} (hC:Ck 22 [dC 7 e item loc 0 q 0 0] Kcm) (hD:Ck 140 [S.av,dC 7 e item loc 0 q 0 0] (.bB [r.1.av,.i r.2])) (hE:fF r.2) (hT:0≤r.1.done∧r.1.done≤1000000) :
  Ck 16 [S.av,dC 7 e item loc 0 q 0 0] (.bB [(dM S r).1.av,.i (dM S r).2]):=by
 obtain⟨T,f⟩:=r;dsimp only at *
 unfold dM;by_cases h0:f=0
 ·subst h0
  rw[if_pos rfl,iX];exact cw _ (ev1 { vars:=KcE,bN:=[Ye,(140,YM,Q7)] } [T.done] [.I S.aB,.I S.aD,.I S.done,.I e,.I item,.I loc,.I q,.I T.aB,.I T.aD] (sT S (sT T [])) .nil) YM Qk (kc hC (kc hD kn))
 ·rw[if_neg h0]
  exact cw _ (ev1 { vars:=Kb7,bN:=[Ye,(140,YM,Q8)] } [f,T.done] [.I S.aB,.I S.aD,.I S.done,.I e,.I item,.I loc,.I q,.I T.aB,.I T.aD] (sT S (sT T [])) .nil) YM D6 (kc hC (kc hD kn))
theorem ahU {S:bL} {r:bL×Int} (hC:Ck 22 [dC 8 e item loc dst q 0 0] Kcm) (hD:Ck 140 [S.av,dC 8 e item loc dst q 0 0] (.bB [r.1.av,.i r.2])) (hE:fF r.2) (hT:0≤r.1.done∧r.1.done≤1000000) :
  Ck 16 [S.av,dC 8 e item loc dst q 0 0] (.bB [(dM S r).1.av,.i (dM S r).2]):=by
 obtain⟨T,f⟩:=r;dsimp only at *
 unfold dM;by_cases h0:f=0
 ·subst h0
  rw[if_pos rfl,iX];exact cw _ (ev1 { vars:=KcE,bN:=[Yf,(140,YN,Q3)] } [T.done] [.I S.aB,.I S.aD,.I S.done,.I e,.I item,.I loc,.I dst,.I q,.I T.aB,.I T.aD] (sT S (sT T [])) .nil) YN Qi (kc hC (kc hD kn))
 ·rw[if_neg h0]
  exact cw _ (ev1 { vars:=Kb7,bN:=[Yf,(140,YN,Q4)] } [f,T.done] [.I S.aB,.I S.aD,.I S.done,.I e,.I item,.I loc,.I dst,.I q,.I T.aB,.I T.aD] (sT S (sT T [])) .nil) YN D6 (kc hC (kc hD kn))
theorem ahT {S:bL} {r:bL×Int} (hC:Ck 22 [dC 9 e item 0 0 0 a 0] Kcm) (hD:Ck 140 [S.av,dC 9 e item 0 0 0 a 0] (.bB [r.1.av,.i r.2])) (hE:fF r.2) (hT:0≤r.1.done∧r.1.done≤1000000) :
  Ck 16 [S.av,dC 9 e item 0 0 0 a 0] (.bB [(dM S r).1.av,.i (dM S r).2]):=by
 obtain⟨T,f⟩:=r;dsimp only at *
 unfold dM;by_cases h0:f=0
 ·subst h0
  rw[if_pos rfl,iX];exact cw _ (ev1 { vars:=KcE,bN:=[Yg,(140,YO,Q5)] } [T.done] [.I S.aB,.I S.aD,.I S.done,.I e,.I item,.I a,.I T.aB,.I T.aD] (sT S (sT T [])) .nil) YO Qj (kc hC (kc hD kn))
 ·rw[if_neg h0]
  exact cw _ (ev1 { vars:=Kb7,bN:=[Yg,(140,YO,Q6)] } [f,T.done] [.I S.aB,.I S.aD,.I S.done,.I e,.I item,.I a,.I T.aB,.I T.aD] (sT S (sT T [])) .nil) YO D6 (kc hC (kc hD kn))
theorem afM {S:bL} {r:bL×Int} (hC:Ck 22 [dC 10 e item 0 0 0 a 0] Kcm) (hD:Ck 143 [S.av,dC 10 e item 0 0 0 a 0] (.bB [r.1.av,.i r.2])) (hE:fF r.2) (hT:0≤r.1.done∧r.1.done≤1000000) :
  Ck 16 [S.av,dC 10 e item 0 0 0 a 0] (.bB [(dM S r).1.av,.i (dM S r).2]):=by
 obtain⟨T,f⟩:=r;dsimp only at *
 unfold dM;by_cases h0:f=0
 ·subst h0
  rw[if_pos rfl,iX];exact cw _ (ev1 { vars:=KcE,bN:=[ZU,(143,Yo,Q5)] } [T.done] [.I S.aB,.I S.aD,.I S.done,.I e,.I item,.I a,.I T.aB,.I T.aD] (sT S (sT T [])) .nil) Yo Qj (kc hC (kc hD kn))
 ·rw[if_neg h0]
  exact cw _ (ev1 { vars:=Kb7,bN:=[ZU,(143,Yo,Q6)] } [f,T.done] [.I S.aB,.I S.aD,.I S.done,.I e,.I item,.I a,.I T.aB,.I T.aD] (sT S (sT T [])) .nil) Yo D6 (kc hC (kc hD kn))
theorem afL {S:bL} {refs:List Int} {r:bL×Int} (hC:Ck 22 [qM dst a refs] Kcm) (hD:Ck 53 [S.av,qM dst a refs] (.bB [r.1.av,.i r.2])) (hE:fF r.2) (hT:0≤r.1.done∧r.1.done≤1000000) :
  Ck 16 [S.av,qM dst a refs] (.bB [(dM S r).1.av,.i (dM S r).2]):=by
 obtain⟨T,f⟩:=r;dsimp only at *
 unfold dM;by_cases h0:f=0
 ·subst h0
  rw[if_pos rfl,iX];exact cw _ (ev1 { vars:=KcE,bN:=[ZK,(53,ZV,(.bB [(.agg [.o 5,.o 6,.q 1 9,.q 1 10,.q 1 11,.q 8 8,.q 8 12,.q 9 13,.q 6 14,.v 0]),.i 0]))] } [T.done] [.I S.aB,.I S.aD,.I S.done,.I dst,.I a,.I T.aB,.I T.aD] (sT S [aA refs,aN T.bG,aA T.weights,aO T.methods,aO T.cP,gH T.aH,cR T.aM,gG T.bK]) .nil) ZV (.bB [(.agg [.o 5,.o 6,.q 1 9,.q 1 10,.q 1 11,.q 8 8,.q 8 12,.q 9 13,.q 6 14,KbQ]),.i 0]) (kc hC (kc hD kn))
 ·rw[if_neg h0]
  exact cw _ (ev1 { vars:=Kb7,bN:=[ZK,(53,ZV,(.bB [(.agg [.o 5,.o 6,.q 1 9,.q 1 10,.q 1 11,.q 8 8,.q 8 12,.q 9 13,.q 6 14,.v 1]),.v 0]))] } [f,T.done] [.I S.aB,.I S.aD,.I S.done,.I dst,.I a,.I T.aB,.I T.aD] (sT S [aA refs,aN T.bG,aA T.weights,aO T.methods,aO T.cP,gH T.aH,cR T.aM,gG T.bK]) .nil) ZV D6 (kc hC (kc hD kn))
theorem afK {S:bL} {r:bL×Int} (hC:Ck 22 [dC 12 e item loc dst q a 0] Kcm) (hD:Ck 142 [S.av,dC 12 e item loc dst q a 0] (.bB [r.1.av,.i r.2])) (hE:fF r.2) (hT:0≤r.1.done∧r.1.done≤1000000) :
  Ck 16 [S.av,dC 12 e item loc dst q a 0] (.bB [(dM S r).1.av,.i (dM S r).2]):=by
 obtain⟨T,f⟩:=r;dsimp only at *
 unfold dM;by_cases h0:f=0
 ·subst h0
  rw[if_pos rfl,iX];exact cw _ (ev1 { vars:=KcE,bN:=[ZW,(142,Yp,(.bB [(.agg [.o 9,.o 10,.q 1 8,.q 1 9,.q 1 10,.q 8 7,.q 8 11,.q 9 12,.q 6 13,.v 0]),.i 0]))] } [T.done] [.I S.aB,.I S.aD,.I S.done,.I e,.I item,.I loc,.I dst,.I q,.I a,.I T.aB,.I T.aD] (sT S (sT T [])) .nil) Yp (.bB [(.agg [.o 9,.o 10,.q 1 8,.q 1 9,.q 1 10,.q 8 7,.q 8 11,.q 9 12,.q 6 13,KbQ]),.i 0]) (kc hC (kc hD kn))
 ·rw[if_neg h0]
  exact cw _ (ev1 { vars:=Kb7,bN:=[ZW,(142,Yp,(.bB [(.agg [.o 9,.o 10,.q 1 8,.q 1 9,.q 1 10,.q 8 7,.q 8 11,.q 9 12,.q 6 13,.v 1]),.v 0]))] } [f,T.done] [.I S.aB,.I S.aD,.I S.done,.I e,.I item,.I loc,.I dst,.I q,.I a,.I T.aB,.I T.aD] (sT S (sT T [])) .nil) Yp D6 (kc hC (kc hD kn))
theorem afJ {S:bL} {r:bL×Int} (hC:Ck 22 [dC 13 0 0 loc 0 q 0 ref] Kcm) (hD:Ck 142 [S.av,dC 13 0 0 loc 0 q 0 ref] (.bB [r.1.av,.i r.2])) (hE:fF r.2) (hT:0≤r.1.done∧r.1.done≤1000000) :
  Ck 16 [S.av,dC 13 0 0 loc 0 q 0 ref] (.bB [(dM S r).1.av,.i (dM S r).2]):=by
 obtain⟨T,f⟩:=r;dsimp only at *
 unfold dM;by_cases h0:f=0
 ·subst h0
  rw[if_pos rfl,iX];exact cw _ (ev1 { vars:=KcE,bN:=[ZX,(142,Yq,Q5)] } [T.done] [.I S.aB,.I S.aD,.I S.done,.I loc,.I q,.I ref,.I T.aB,.I T.aD] (sT S (sT T [])) .nil) Yq Qj (kc hC (kc hD kn))
 ·rw[if_neg h0]
  exact cw _ (ev1 { vars:=Kb7,bN:=[ZX,(142,Yq,Q6)] } [f,T.done] [.I S.aB,.I S.aD,.I S.done,.I loc,.I q,.I ref,.I T.aB,.I T.aD] (sT S (sT T [])) .nil) Yq D6 (kc hC (kc hD kn))
theorem afI {S:bL} {r:bL×Int} (hC:Ck 22 [dC 14 e 0 0 0 0 0 0] Kcm) (hD:Ck 30 [S.av,.i e] (.bB [r.1.av,.i r.2])) (hE:fF r.2) (hT:0≤r.1.done∧r.1.done≤1000000) :
  Ck 16 [S.av,dC 14 e 0 0 0 0 0 0] (.bB [(dM S r).1.av,.i (dM S r).2]):=by
 obtain⟨T,f⟩:=r;dsimp only at *
 unfold dM;by_cases h0:f=0
 ·subst h0
  rw[if_pos rfl,iX];exact cw _ (ev1 { vars:=KcE,bN:=[ZY,(30,KaC,Q9)] } [T.done] [.I S.aB,.I S.aD,.I S.done,.I e,.I T.aB,.I T.aD] (sT S (sT T [])) .nil) Yr Ql (kc hC (kc hD kn))
 ·rw[if_neg h0]
  exact cw _ (ev1 { vars:=Kb7,bN:=[ZY,(30,KaC,Za)] } [f,T.done] [.I S.aB,.I S.aD,.I S.done,.I e,.I T.aB,.I T.aD] (sT S (sT T [])) .nil) Yr D6 (kc hC (kc hD kn))
theorem afH {S:bL} {r:bL×Int} (hC:Ck 22 [dC 15 e 0 0 0 0 0 0] Kcm) (hD:Ck 38 [S.av,.i e] (.bB [r.1.av,.i r.2])) (hE:fF r.2) (hT:0≤r.1.done∧r.1.done≤1000000) :
  Ck 16 [S.av,dC 15 e 0 0 0 0 0 0] (.bB [(dM S r).1.av,.i (dM S r).2]):=by
 obtain⟨T,f⟩:=r;dsimp only at *
 unfold dM;by_cases h0:f=0
 ·subst h0
  rw[if_pos rfl,iX];exact cw _ (ev1 { vars:=KcE,bN:=[ZZ,(38,KaC,Q9)] } [T.done] [.I S.aB,.I S.aD,.I S.done,.I e,.I T.aB,.I T.aD] (sT S (sT T [])) .nil) Ys Ql (kc hC (kc hD kn))
 ·rw[if_neg h0]
  exact cw _ (ev1 { vars:=Kb7,bN:=[ZZ,(38,KaC,Za)] } [f,T.done] [.I S.aB,.I S.aD,.I S.done,.I e,.I T.aB,.I T.aD] (sT S (sT T [])) .nil) Ys D6 (kc hC (kc hD kn))
theorem afG {S:bL} {r:bL×Int} (hC:Ck 22 [dC 16 e 0 0 0 0 0 0] Kcm) (hD:Ck 39 [S.av,.i e] (.bB [r.1.av,.i r.2])) (hE:fF r.2) (hT:0≤r.1.done∧r.1.done≤1000000) :
  Ck 16 [S.av,dC 16 e 0 0 0 0 0 0] (.bB [(dM S r).1.av,.i (dM S r).2]):=by
 obtain⟨T,f⟩:=r;dsimp only at *
 unfold dM;by_cases h0:f=0
 ·subst h0
  rw[if_pos rfl,iX];exact cw _ (ev1 { vars:=KcE,bN:=[Z0,(39,KaC,Q9)] } [T.done] [.I S.aB,.I S.aD,.I S.done,.I e,.I T.aB,.I T.aD] (sT S (sT T [])) .nil) Yt Ql (kc hC (kc hD kn))
 ·rw[if_neg h0]
  exact cw _ (ev1 { vars:=Kb7,bN:=[Z0,(39,KaC,Za)] } [f,T.done] [.I S.aB,.I S.aD,.I S.done,.I e,.I T.aB,.I T.aD] (sT S (sT T [])) .nil) Yt D6 (kc hC (kc hD kn))
end
end
section
open Mc
set_option maxRecDepth 1000000
def bL.rc (S:bL) (k:Int):yJ:=S.aH.getD k.toNat ⟨0,0,0,0,0,0,0,0⟩
def iA (S:bL):bL→List Int→List Int→Int→bL×Int×Int
 |T,[],_,all=>(T,all,0)
 |T,k::ks,sh,all=>if(kM T (S.rc k) (sh.headD 0)).2.2≠0 then(T,all,(kM T (S.rc k) (sh.headD 0)).2.2)else iA S (kM T (S.rc k) (sh.headD 0)).1 ks sh.tail (all+(kM T (S.rc k) (sh.headD 0)).2.1)
theorem yN {S T:bL} {k v all:Int} {ks vs:List Int}:iA S T (k::ks) (v::vs) all=if(kM T (S.rc k) v).2.2≠0 then(T,all,(kM T (S.rc k) v).2.2)else iA S (kM T (S.rc k) v).1 ks vs (all+(kM T (S.rc k) v).2.1):=rfl
def vL (S:bL) (dst a:Int) (refs:List Int):bL×Int :=
 if refs.any (fun k=>decide ((S.aH.length:Int)≤k))=true then(S,4)else
 if refs.any (fun k=>decide ((S.rc k).aU≠(S.rc (refs.headD 0)).aU))=true then(S,1)else
 if(S.aJ (S.rc (refs.headD 0)).aU).closed=true then(S,7)else
 match eC a (refs.map (cJ S dst))with
 |(sh,f)=>if f≠0 then(S,f)else
 match iA S S refs sh 0 with
 |(T,all,f)=>if f≠0 then(S,f)else
 match dH T (S.rc (refs.headD 0)).aU [⟨0,all⟩,⟨9,a-all⟩,⟨2,-a⟩]with
 |(T2,f)=>if f≠0 then(S,f)else(T2,0)
namespace LD
abbrev lF1 (i:AV):List AV:=fr 166 [(2,.ptr 10 0 0 0),(3,.ptr 9 1 0 0),(4,.ptr 10 2 0 0),(5,.i 0),(6,i)]
abbrev Sh (i:AV):List AV:=fr 166 [(2,.ptr 10 0 0 0),(3,.ptr 9 1 0 0),(4,.ptr 10 2 0 0),(5,.i 0),(7,.ptr 8 3 0 0),(8,i)]
abbrev lF3 (sh all i:AV):List AV:=fr 166 [(2,.ptr 10 0 0 0),(3,.ptr 9 1 0 0),(4,.ptr 10 2 0 0),(5,.i 0),(7,.ptr 8 3 0 0),(9,.i 0),(10,sh),(11,.i 0),(12,.ptr 10 4 0 0),(13,all),(14,i)]
abbrev sC (S:bL) (E:List dR):Mc.bX:=.cells 31 10 [[.i S.aB,.i S.aD,.lit 1 (aA S.weights),.lit 1 (aO S.methods),.lit 1 (aO S.cP),.lit 8 (aN E),.lit 8 (gH S.aH),.lit 9 (cR S.aM),.lit 6 (gG S.bK),.i S.done]]
abbrev gC (g:yJ):Mc.bX:=.cells 110 8 [[.i g.aU,.i g.item,.i g.loc,.i g.eT,.i g.value,.i g.rC,.i g.bZ,.i g.back]]
abbrev lB (S:bL) (dst a:Int) (refs:List Int):List Mc.bX:=[sC S S.bG,.cells 50 9 [[.i 11,.i 0,.i 0,.i 0,.i dst,.i 0,.i a,.i 0,.lit 1 (aA refs)]],.cells 31 10 V9]
noncomputable def body:Code:=(Tryz.f53).body.getD .skip
abbrev aiW (c:Code) (r:Option (RT Out)):Prop:=CG { vars:=Dj,lens:=Kap } c (Z1++List.replicate 164 .undef) [] [some 0,some 1,some 2] (lF1 (.i 0)) Ku r
noncomputable def IB:Option (RT Out):=Tz { vars:=Dj,lens:=Kap } body (Z1++List.replicate 164 .undef:List AV).length (Z1++List.replicate 164 .undef) [] 0
theorem alF:aiW body IB:=⟨rfl,by decide +kernel,by decide +kernel⟩
abbrev Oz (c:Code):Prop:=gN { vars:=WL,facts:=[KaS,([([1],1),([4],-1)],1,40)],lens:=Kap,hH:=[(7,[([3],1)],[.v 4])] } c (lF1 (.v 3)) Ku 0 [some 0,some 1,some 2] (lF1 KbR) Ku
theorem agR:Oz (bE IB):=⟨_,rfl,by decide +kernel,by decide +kernel⟩
abbrev I1 (c:Code):Prop:=Ts { vars:=WL,facts:=[KaS,([([1],1),([4],-1)],-40,0)],lens:=Kap,hH:=[(7,[([3],1)],[.v 4])] } Tryz.f53 c (lF1 (.v 3)) Ku ((.bB [Kb1,.i 4]))
theorem ady:I1 (bE IB):=⟨_,rfl,by decide +kernel,by decide +kernel,by kernel_rfl⟩
abbrev Xh (c:Code):Prop:=gN { vars:=Dj,lens:=Kap } c (lF1 (.v 0)) Ku 2 [some 0,some 1,some 2] (lF1 (.v 0)) Ku
theorem ajT:Xh (bE IB):=⟨_,rfl,by decide +kernel,by decide +kernel⟩
abbrev aeu (o:Option (RT Out)) (r:Option (RT Out)):Prop:=Tt { vars:=Vg,facts:=[([([1],1),([3],-1)],1,40)],lens:=Kap,hH:=[(7,[],[.v 3]),VF] } o 0 (lF1 (.v 0)) Ku [some 0,some 1,some 2,some 3] (Sh (.i 1)) [ZG,UO,Ux,(.cells 110 8 [Gm])] r
noncomputable def sU:Option (RT Out):=rsA { vars:=Vg,facts:=[([([1],1),([3],-1)],1,40)],lens:=Kap,hH:=[(7,[],[.v 3]),VF] } IB 0 (lF1 (.v 0):List AV).length (lF1 (.v 0)) Ku 3
theorem ajS:aeu IB sU:=⟨rfl,by decide +kernel,by decide +kernel⟩
abbrev Ow (c:Code):Prop:=gN { vars:=Uy,facts:=[KaT,KaU,Ka5],lens:=Kap,hH:=Zs } c (Sh (.v 5)) Km 0 [some 0,some 1,some 2,some 3] (Sh KbO) Km
theorem agO:Ow (bE sU):=⟨_,rfl,by decide +kernel,by decide +kernel⟩
abbrev Ox (c:Code):Prop:=Ts { vars:=Uy,facts:=[KaT,KaU,(Kck,-10,-1)],lens:=Kap,hH:=Zs } Tryz.f53 c (Sh (.v 5)) Km Dk
theorem agP:Ox (bE sU):=⟨_,rfl,by decide +kernel,by decide +kernel,by kernel_rfl⟩
abbrev Oy (c:Code):Prop:=Ts { vars:=Uy,facts:=[KaT,KaU,(Kck,1,10)],lens:=Kap,hH:=Zs } Tryz.f53 c (Sh (.v 5)) Km Dk
theorem agQ:Oy (bE sU):=⟨_,rfl,by decide +kernel,by decide +kernel,by kernel_rfl⟩
abbrev Xg (c:Code):Prop:=gN { vars:=W7,lens:=Kap } c (Sh (.v 0)) Km 4 [some 0,some 1,some 2,some 3] (Sh (.v 0)) Km
theorem ajR:Xg (bE sU):=⟨_,rfl,by decide +kernel,by decide +kernel⟩
abbrev aes (o:Option (RT Out)):Prop:=mI { vars:=W7,lens:=Kap,bN:=[(89,[Kb1,.v 3,.v 4],(.i 7))] } Tryz.f53 o 2 (Sh (.v 0)) Km Dl
theorem ajO:aes sU:=⟨_,rfl,by decide +kernel,by decide +kernel,by kernel_rfl⟩
abbrev aer (o:Option (RT Out)):Prop:=mI { vars:=[(1,40),(0,40),(0,1125899906842624),(0,3),(0,4),(1,20)],lens:=Kap,bN:=[HL,W8,(90,[.v 2,.q 1 8],(.bB [.q 1 9,.v 5]))] } Tryz.f53 o 2 (Sh (.v 0)) Km Dm
theorem ajN:aer sU:=⟨_,rfl,by decide +kernel,by decide +kernel,by kernel_rfl⟩
abbrev aet (o:Option (RT Out)) (r:Option (RT Out)):Prop:=Tt { vars:=W7,lens:=HW,bN:=Jm } o 2 (Sh (.v 0)) Km [some 0,some 1,some 2,some 3,some 4] (lF3 (.q 1 9) (.i 0) (.i 0)) [ZG,UO,Ux,Vp,ZG] r
noncomputable def zG:Option (RT Out):=rsA { vars:=W7,lens:=HW,bN:=Jm } sU 2 (Sh (.v 0):List AV).length (Sh (.v 0)) Km 4
theorem ajQ:aet sU zG:=⟨rfl,by decide +kernel,by decide +kernel⟩
abbrev Ov (c:Code):Prop:=gN { vars:=[(1,40),(0,40),(0,1125899906842624),(0,3),(0,4),(0,39),(0,39),(0,1125899906842624),(0,1125899906842624)],facts:=Wa,lens:=HW,hH:=Qf,bN:=[(91,Zt,(.bB [KbS,.v 8,.i 0]))] } c (lF3 (.q 1 9) (.v 7) (.v 5)) Kj 0 [some 0,some 1,some 2,some 3,some 4] (lF3 (.q 1 9) (.e [([7],1),([8],1)]) KbO) [ZG,UO,Ux,Vp,(.cells 31 10 [[.o 0,.o 1,.q 1 1,.q 1 2,.q 1 3,.q 8 10,.q 8 4,.q 9 5,.q 6 6,.o 2]])]
theorem agN:Ov (bE zG):=⟨_,rfl,by decide +kernel,by decide +kernel⟩
abbrev I0 (c:Code):Prop:=Ts { vars:=[(1,40),(0,40),(0,1125899906842624),(0,3),(0,4),(0,39),(0,39),(0,1125899906842624),(1,20)],facts:=Wa,lens:=HW,hH:=Qf,bN:=[(91,Zt,(.bB [KbS,.o 19,.v 8]))] } Tryz.f53 c (lF3 (.q 1 9) (.v 7) (.v 5)) Kj ((.bB [Kb1,.v 8]))
theorem adw:I0 (bE zG):=⟨_,rfl,by decide +kernel,by decide +kernel,by kernel_rfl⟩
abbrev Xf (c:Code):Prop:=gN { vars:=Uv,lens:=HW } c (lF3 (.q 1 9) (.v 5) (.v 0)) Kj 6 [some 0,some 1,some 2,some 3,some 4] (lF3 (.q 1 9) (.v 5) (.v 0)) Kj
theorem ajP:Xf (bE zG):=⟨_,rfl,by decide +kernel,by decide +kernel⟩
abbrev RE (o:Option (RT Out)):Prop:=mI { vars:=Uv,lens:=HW,bN:=[(92,Qo,DG)] } Tryz.f53 o 4 (lF3 (.q 1 9) (.v 5) (.v 0)) Kj (DG)
theorem adx:RE zG:=⟨_,rfl,by decide +kernel,by decide +kernel,by kernel_rfl⟩
abbrev Nk (o:Option (RT Out)):Prop:=mI { vars:=[(1,40),(0,40),(0,1125899906842624),(0,3),(0,4),(0,1125899906842624),(1,20)],lens:=HW,bN:=[(92,Qo,(.bB [KbS,.v 6]))] } Tryz.f53 o 4 (lF3 (.q 1 9) (.v 5) (.v 0)) Kj (DO)
theorem abU:Nk zG:=⟨_,rfl,by decide +kernel,by decide +kernel,by kernel_rfl⟩
theorem abQ {S:bL} (G:Gn S) (hw:∀v∈S.weights,0≤v∧v≤1073741824) (dst k:Int):0≤cJ S dst k∧cJ S dst k≤1152921504606846976:=by
 unfold cJ;split
 ·omega
 ·split
  ·omega
  ·rename_i g hg
   obtain⟨b1,b2,b3,b4,b5,b6,b7,b8⟩:=G.FM g (List.mem_of_getElem? hg)
   have hx:=hw _ (eL (d:=0) (k:=g.item.toNat) (l:=S.weights) (by omega))
   split
   ·omega
   ·split
    ·omega
    ·split
     ·have h1:=Int.mul_nonneg (show 0≤g.eT by omega) hx.1
      have h2:g.eT*S.weights.getD g.item.toNat 0≤1073741824*1073741824:=Int.mul_le_mul b4.2 hx.2 hx.1 (by omega)
      omega
     ·omega
theorem Rl {S:bL} {k:Int} (h0:0≤k) (h:k<S.aH.length):S.aH[k.toNat]?=some ⟨(S.rc k).aU,(S.rc k).item,(S.rc k).loc,(S.rc k).eT,(S.rc k).value,(S.rc k).rC,(S.rc k).bZ,(S.rc k).back⟩:=getD_some (by omega)
noncomputable abbrev fDo:Func:=Tryz.f53
section
variable {S:bL} {dst a:Int} {refs:List Int} {A:Nat→Prop} {w0:World} {a0:Act} {R:AV}
theorem afd (oA:Option (RT Out)) (r1:Oz (bE oA)) (r1b:I1 (bE oA)) (r1x:Xh (bE oA)) (PF:S.aH.length≤40) (h1:1≤refs.length) (h40:refs.length≤40) (hr:∀k∈refs,0≤k∧k≤39) (ha:0≤a∧a≤1125899906842624)
  {mm:Nat→St} {w:World} {aa:Act} (pr:@gZ dI dN A w0 a0 mm w aa (lF1 (.i 0)) (eS (lB S dst a refs))) (hbad:∀k∈refs,(S.aH.length:Int)≤k→R=.bB [S.av,.i 4])
  (kk:(∀k∈refs,k<S.aH.length)→∀mm w aa,@gZ dI dN A w0 a0 mm w aa (lF1 (.i (refs.length:Int))) (eS (lB S dst a refs))→KS Tryz.prog (oK oA) (Fin Tryz.prog fDo A w0 a0 R) (AX.exit 0).to aa w) :
  (Code.loop (bE oA)).wpIn (fw none) 9 Tryz.prog (KS Tryz.prog (oK oA) (Fin Tryz.prog fDo A w0 a0 R)) aa w:=by
 refine fQ (fun n a' w=>∃(j:Nat),n=refs.length-j∧j≤refs.length∧(∀k∈refs.take j,k<S.aH.length)∧∃mm,@gZ dI dN A w0 a0 mm w a' (lF1 (.i (j:Int))) (eS (lB S dst a refs))) ?_ (n:=refs.length) ⟨0,rfl,Nat.zero_le _,by simp,_,pr⟩
 rintro n aa w ⟨j,rfl,hj,hin,mm,pr⟩
 rcases(by omega:j=refs.length∨j<refs.length)with rfl|hlt
 ·rw[List.take_length]at hin
  refine r1x.go (ev1 _ [(refs.length:Int),(S.aH.length:Int),a] [.I S.aB,.I S.aD,.I S.done,.I dst] (sT S [aA refs]) .nil) (xK kn) pr ?_
  exact kk hin
 ·obtain⟨k,hk'⟩:∃k,refs[j]?=some k:=⟨_,List.getElem?_eq_getElem hlt⟩
  have hk:refs[(j:Int).toNat]?=some k:=by simpa using hk'
  have hkb:=hr k (List.mem_of_getElem? hk')
  by_cases hkn:k<S.aH.length
  ·refine r1.go (ev1 _ [(refs.length:Int),(S.aH.length:Int),a,(j:Int),k] [.I S.aB,.I S.aD,.I S.done,.I dst] (sT S [aA refs]) (.d (aI hk) .nil)) (xK kn) pr (fd:=lF1 (.i (1+(j:Int)))) (bd:=lB S dst a refs) ?_
   intro mm w aa pr;rw[show(1+(j:Int))=((j+1:Nat):Int)by omega]at pr
   refine⟨_,by omega,j+1,rfl,by omega,?_,mm,pr⟩
   intro z hz;rw[List.take_add_one,hk']at hz;rcases List.mem_append.1 hz with hz|hz
   ·exact hin z hz
   ·simp at hz;rw[hz];exact hkn
  ·rw[hbad k (List.mem_of_getElem? hk') (by omega)]
   exact r1b.go (ev1 _ [(refs.length:Int),(S.aH.length:Int),a,(j:Int),k] [.I S.aB,.I S.aD,.I S.done,.I dst] (sT S [aA refs]) (.d (aI hk) .nil)) (xK kn) pr fun a w h=>tN h _
theorem afc (o2:Option (RT Out)) (r2:Ow (bE o2)) (r2l:Ox (bE o2)) (r2g:Oy (bE o2)) (r2x:Xg (bE o2)) (G:Gn S) (h1:1≤refs.length) (h40:refs.length≤40) (hr:∀k∈refs,0≤k∧k≤39) (ha:0≤a∧a≤1125899906842624) (hin:∀k∈refs,k<S.aH.length)
  {g:yJ} (gb:(0≤g.aU∧g.aU≤3)∧0≤g.item∧g.item≤4) (hg0:∀k∈refs.take 1,(S.rc k).aU=g.aU)
  {mm:Nat→St} {w:World} {aa:Act} (pr:@gZ dI dN A w0 a0 mm w aa (Sh (.i 1)) (eS (lB S dst a refs++[gC g]))) (hbad:∀k∈refs,(S.rc k).aU≠g.aU→R=.bB [S.av,.i 1])
  (kk:(∀k∈refs,(S.rc k).aU=g.aU)→∀mm w aa,@gZ dI dN A w0 a0 mm w aa (Sh (.i (refs.length:Int))) (eS (lB S dst a refs++[gC g]))→KS Tryz.prog (oK o2) (Fin Tryz.prog fDo A w0 a0 R) (AX.exit 2).to aa w) :
  (Code.loop (bE o2)).wpIn (fw none) 9 Tryz.prog (KS Tryz.prog (oK o2) (Fin Tryz.prog fDo A w0 a0 R)) aa w:=by
 have PF:=G.IM;have:=G.hn;refine fQ (fun n a' w=>∃(j:Nat),n=refs.length-j∧1≤j∧j≤refs.length∧(∀k∈refs.take j,(S.rc k).aU=g.aU)∧∃mm,@gZ dI dN A w0 a0 mm w a' (Sh (.i (j:Int))) (eS (lB S dst a refs++[gC g]))) ?_ (n:=refs.length-1) ⟨1,rfl,Nat.le_refl _,h1,hg0,_,pr⟩
 rintro n aa w ⟨j,rfl,hj1,hj,hsame,mm,pr⟩
 rcases(by omega:j=refs.length∨j<refs.length)with rfl|hlt
 ·rw[List.take_length]at hsame
  refine r2x.go (ev1 _ [(refs.length:Int),(S.aH.length:Int),a,g.aU,g.item] [.I S.aB,.I S.aD,.I S.done,.I dst,.I g.loc,.I g.eT,.I g.value,.I g.rC,.I g.bZ,.I g.back] (sT S [aA refs]) .nil) (xK kn) pr ?_
  exact kk hsame
 ·obtain⟨k,hk'⟩:∃k,refs[j]?=some k:=⟨_,List.getElem?_eq_getElem hlt⟩
  have hk:refs[(j:Int).toNat]?=some k:=by simpa using hk'
  have hkm:=List.mem_of_getElem? hk'
  have hkb:=hr k hkm;have hkn:=hin k hkm;have hh:=Rl hkb.1 hkn;obtain⟨q1,-⟩:=G.FM _ (List.mem_of_getElem? hh)
  dsimp only at q1
  have hb:=hbad k hkm;have nx:(S.rc k).aU=g.aU→∀z∈refs.take (j+1),(S.rc z).aU=g.aU:=by
   intro he z hz;rw[List.take_add_one,hk']at hz;rcases List.mem_append.1 hz with hz|hz
   ·exact hsame z hz
   ·simp at hz;rw[hz];exact he
  generalize S.rc k=h at *;rcases(by omega:h.aU=g.aU∨h.aU<g.aU∨g.aU<h.aU)with he|he|he
  ·refine r2.go (ev1 _ [(refs.length:Int),(S.aH.length:Int),a,g.aU,g.item,(j:Int),k,h.aU] [.I S.aB,.I S.aD,.I S.done,.I dst,.I g.loc,.I g.eT,.I g.value,.I g.rC,.I g.bZ,.I g.back,.I h.item,.I h.loc,.I h.eT,.I h.value,.I h.rC,.I h.bZ,.I h.back] (sT S [aA refs]) (.d (aI hk) (.d (aC hh) .nil))) (xK kn) pr (fd:=Sh (.i (1+(j:Int)))) (bd:=lB S dst a refs++[gC g]) ?_
   intro mm w aa pr;rw[show(1+(j:Int))=((j+1:Nat):Int)by omega]at pr
   exact⟨_,by omega,j+1,rfl,by omega,by omega,nx he,mm,pr⟩
  ·rw[hb (by omega)]
   exact r2l.go (ev1 _ [(refs.length:Int),(S.aH.length:Int),a,g.aU,g.item,(j:Int),k,h.aU] [.I S.aB,.I S.aD,.I S.done,.I dst,.I g.loc,.I g.eT,.I g.value,.I g.rC,.I g.bZ,.I g.back,.I h.item,.I h.loc,.I h.eT,.I h.value,.I h.rC,.I h.bZ,.I h.back] (sT S [aA refs]) (.d (aI hk) (.d (aC hh) .nil))) (xK kn) pr fun a w h=>tN h _
  ·rw[hb (by omega)]
   exact r2g.go (ev1 _ [(refs.length:Int),(S.aH.length:Int),a,g.aU,g.item,(j:Int),k,h.aU] [.I S.aB,.I S.aD,.I S.done,.I dst,.I g.loc,.I g.eT,.I g.value,.I g.rC,.I g.bZ,.I g.back,.I h.item,.I h.loc,.I h.eT,.I h.value,.I h.rC,.I h.bZ,.I h.back] (sT S [aA refs]) (.d (aI hk) (.d (aC hh) .nil))) (xK kn) pr fun a w h=>tN h _
theorem abX (l:List Int) (j:Nat) (h:j<l.length):(l.take (j+1)).sum=(l.take j).sum+l.getD j 0:=by
 rw[List.take_add_one,List.sum_append,List.getElem?_eq_getElem h,List.getD_eq_getElem?_getD,List.getElem?_eq_getElem h];simp
theorem EG (l:List Int) (h:∀x∈l,0≤x) (j:Nat):(l.take j).sum≤l.sum:=by
 have e:l.sum=(l.take j).sum+(l.drop j).sum:=by rw[←List.sum_append,List.take_append_drop]
 have:0≤(l.drop j).sum:=by
  have go:∀(m:List Int),(∀x∈m,0≤x)→0≤m.sum:=by
   intro m;induction m with
   |nil=>intro _;simp
   |cons x t ih=>intro hm;rw[List.sum_cons];have:=hm x (by simp);have:=ih fun y hy=>hm y (by simp[hy]);omega
  exact go _ fun x hx=>h x (List.mem_of_mem_drop hx)
 omega
theorem al0 (o3:Option (RT Out)) (r3:Ov (bE o3)) (r3e:I0 (bE o3)) (r3x:Xf (bE o3)) (G:Gn S) (hd:S.done≤1000000) (h1:1≤refs.length) (h40:refs.length≤40) (hr:∀k∈refs,0≤k∧k≤39) (ha:0≤a∧a≤1125899906842624) (hin:∀k∈refs,k<S.aH.length)
  {g:yJ} (gb:(0≤g.aU∧g.aU≤3)∧0≤g.item∧g.item≤4) {sh:List Int} (hsl:sh.length=refs.length) (hs0:∀x∈sh,0≤x∧x≤a) (hsa:sh.sum=a)
  {mm:Nat→St} {w:World} {aa:Act} (pr:@gZ dI dN A w0 a0 mm w aa (lF3 (.lit 1 (aA sh)) (.i 0) (.i 0)) (eS (lB S dst a refs++[gC g,sC S S.bG])))
  (hbad:∀f,(iA S S refs sh 0).2.2=f→f≠0→R=.bB [S.av,.i f])
  (kk:∀E all,iA S S refs sh 0=(S.aZ E,all,0)→Kn S (S.aZ E)→0≤all∧all≤a→∀mm w aa,@gZ dI dN A w0 a0 mm w aa (lF3 (.lit 1 (aA sh)) (.i all) (.i (refs.length:Int))) (eS (lB S dst a refs++[gC g,sC S E]))→KS Tryz.prog (oK o3) (Fin Tryz.prog fDo A w0 a0 R) (AX.exit 4).to aa w) :
  (Code.loop (bE o3)).wpIn (fw none) 9 Tryz.prog (KS Tryz.prog (oK o3) (Fin Tryz.prog fDo A w0 a0 R)) aa w:=by
 have PF:=G.IM;have:=G.hn;refine fQ (fun n a' w=>∃(j:Nat) (E1:List dR) (all:Int),n=refs.length-j∧j≤refs.length∧iA S S refs sh 0=iA S (S.aZ E1) (refs.drop j) (sh.drop j) all∧Kn S (S.aZ E1)∧(0≤all∧all≤(sh.take j).sum)∧∃mm,@gZ dI dN A w0 a0 mm w a' (lF3 (.lit 1 (aA sh)) (.i all) (.i (j:Int))) (eS (lB S dst a refs++[gC g,sC S E1]))) ?_ (n:=refs.length) ⟨0,S.bG,0,rfl,Nat.zero_le _,rfl,.refl G.toStOk,⟨Int.le_refl _,by simp⟩,_,pr⟩
 rintro n aa w ⟨j,E1,all,rfl,hj,hA,K,hall,mm,pr⟩
 have hst:=EG sh (fun x hx=>(hs0 x hx).1) j
 rcases(by omega:j=refs.length∨j<refs.length)with rfl|hlt
 ·refine r3x.go (ev1 _ [(refs.length:Int),(S.aH.length:Int),a,g.aU,g.item,all] [.I S.aB,.I S.aD,.I S.done,.I dst,.I g.loc,.I g.eT,.I g.value,.I g.rC,.I g.bZ,.I g.back] (sT S [aA refs,aN E1,aA sh]) .nil) (xK kn) pr ?_
  exact kk E1 all (by rw[hA,List.drop_length];rfl) K ⟨hall.1,by omega⟩
 ·obtain⟨k,hk'⟩:∃k,refs[j]?=some k:=⟨_,List.getElem?_eq_getElem hlt⟩
  have hk:refs[(j:Int).toNat]?=some k:=by simpa using hk'
  have hkm:=List.mem_of_getElem? hk'
  have hkb:=hr k hkm;have hkn:=hin k hkm;have hh:=Rl hkb.1 hkn;obtain⟨q1,q2,q3,q4,q5,q6,q7,q8⟩:=G.FM _ (List.mem_of_getElem? hh)
  dsimp only at q1 q2 q3 q4 q5 q6 q7 q8
  obtain⟨v,hv'⟩:∃v,sh[j]?=some v:=⟨_,List.getElem?_eq_getElem (by omega)⟩
  have hv:sh[(j:Int).toNat]?=some v:=by simpa using hv'
  have hvb:=hs0 v (List.mem_of_getElem? hv')
  have hdr:refs.drop j=k::refs.drop (j+1):=by rw[←List.getElem_cons_drop hlt];congr 1;exact Option.some.inj (by rw[←List.getElem?_eq_getElem hlt,hk'])
  have hds:sh.drop j=v::sh.drop (j+1):=by rw[←List.getElem_cons_drop (by omega:j<sh.length)];congr 1;exact Option.some.inj (by rw[←List.getElem?_eq_getElem,hv'])
  have hsum:=abX sh j (by omega)
  rw[List.getD_eq_getElem?_getD,hv']at hsum;have hst1:=EG sh (fun x hx=>(hs0 x hx).1) (j+1)
  dsimp only[Option.getD_some]at hsum
  rw[hdr,hds,yN]at hA;have x1:Ix (S.aZ E1) (S.rc k).aU (S.rc k).item:=K.ix ⟨q1.1,q1.2,q2.1,q2.2⟩
  obtain⟨hs,k1,c1,f1⟩:=abv (S:=S.aZ E1) (rv:=(S.rc k).value) (ro:=(S.rc k).rC) (ra:=(S.rc k).bZ) (v:=v) (K.gn G) hd x1 q3 q4 q8 ⟨hvb.1,by omega⟩
  have e0:(⟨(S.rc k).aU,(S.rc k).item,(S.rc k).loc,(S.rc k).eT,(S.rc k).value,(S.rc k).rC,(S.rc k).bZ,(S.rc k).back⟩:yJ)=S.rc k:=rfl
  rw[e0]at hs k1 c1 f1;obtain⟨T2,c,f,hr⟩:∃T2 c f,kM (S.aZ E1) (S.rc k) v=(T2,c,f):=⟨_,_,_,rfl⟩
  rw[hr]at hs k1 c1 f1;simp only[hr]at hA;clear hr e0;generalize S.rc k=h at hs hh
  dsimp only at *
  have K2:=K.trans k1;obtain⟨E2,rfl⟩:=K2.ex;by_cases h0:f=0
  ·subst h0
   rw[if_neg (by simp)]at hA
   refine r3.go (ev1 _ [(refs.length:Int),(S.aH.length:Int),a,g.aU,g.item,(j:Int),k,all,c] [.I S.aB,.I S.aD,.I S.done,.I dst,.I g.loc,.I g.eT,.I g.value,.I g.rC,.I g.bZ,.I g.back,.I h.aU,.I h.item,.I h.loc,.I h.eT,.I h.value,.I h.rC,.I h.bZ,.I h.back,.I v] (sT S [aA refs,aN E1,aA sh,aN E2]) (.d (aI hk) (.d (aC hh) (.d (aI hv) .nil)))) (xK (kc hs kn)) pr (fd:=lF3 (.lit 1 (aA sh)) (.i (all+c)) (.i (1+(j:Int)))) (bd:=lB S dst a refs++[gC g,sC S E2]) ?_
   intro mm w aa pr;rw[show(1+(j:Int))=((j+1:Nat):Int)by omega]at pr
   exact⟨_,by omega,j+1,E2,all+c,rfl,by omega,hA,K2,⟨by omega,by omega⟩,mm,pr⟩
  ·rw[if_pos h0]at hA
   rw[hbad f (by rw[hA]) h0]
   have f2:1≤f∧f≤20:=by unfold fF at f1;omega
   exact r3e.go (ev1 _ [(refs.length:Int),(S.aH.length:Int),a,g.aU,g.item,(j:Int),k,all,f] [.I S.aB,.I S.aD,.I S.done,.I dst,.I g.loc,.I g.eT,.I g.value,.I g.rC,.I g.bZ,.I g.back,.I h.aU,.I h.item,.I h.loc,.I h.eT,.I h.value,.I h.rC,.I h.bZ,.I h.back,.I v,.I c] (sT S [aA refs,aN E1,aA sh,aN E2]) (.d (aI hk) (.d (aC hh) (.d (aI hv) .nil)))) (xK (kc hs kn)) pr fun a w h=>tN h _
theorem walk (oA o2 o3:Option (RT Out)) (rA:aiW body oA) (r1:Oz (bE oA)) (r1b:I1 (bE oA)) (r1x:Xh (bE oA)) (r2A:aeu oA o2) (r2:Ow (bE o2)) (r2l:Ox (bE o2)) (r2g:Oy (bE o2)) (r2x:Xg (bE o2)) (IM:aes o2) (rsp:aer o2) (r3A:aet o2 o3) (r3:Ov (bE o3)) (r3e:I0 (bE o3)) (r3x:Xf (bE o3)) (rxo:RE o3) (rxe:Nk o3)
  (G:Gn S) (hd:S.done≤1000000) (hw:∀v∈S.weights,0≤v∧v≤1073741824) (h1:1≤refs.length) (h40:refs.length≤40) (hr:∀k∈refs,0≤k∧k≤39) (hdst:jY dst) (ha:0≤a∧a≤1125899906842624) :
  Ck 53 [S.av,qM dst a refs] (.bB [(vL S dst a refs).1.av,.i (vL S dst a refs).2]):=by
 have h:=G.toStOk;have PF:=G.IM;have:=h.hn;have:=h.hw
 obtain⟨k0,hk0⟩:∃k,refs[0]?=some k:=⟨_,List.getElem?_eq_getElem (by omega)⟩
 have hk0d:refs.headD 0=k0:=by cases refs with|nil=>simp at h1|cons x t=>simpa using hk0
 have hk0m:=List.mem_of_getElem? hk0
 have hk0b:=hr k0 hk0m;refine CK.gY Tryz.func53 (c:=body) (by kernel_rfl) (Fh.out) (yC.out) fun A w0 a0=>?_
 generalize hR:AV.bB [(vL S dst a refs).1.av,.i (vL S dst a refs).2]=R
 have hL:∀r:bL×Int,vL S dst a refs=r→R=.bB [r.1.av,.i r.2]:=fun r hr=>by rw[←hR,hr]
 intro mm w aa pr;rw[Tryz.ntmps53]at pr;refine rA.go (ev1 _ [(refs.length:Int),(S.aH.length:Int),a] [.I S.aB,.I S.aD,.I S.done,.I dst] (sT S [aA refs]) .nil) (xK kn) pr (fd:=lF1 (.i 0)) (bd:=lB S dst a refs) ?_
 intro mm w aa pr;refine afd oA r1 r1b r1x PF h1 h40 hr ha pr (fun k hk hge=>hL (S,4) (by unfold vL;rw[if_pos (List.any_eq_true.2 ⟨k,hk,by simpa using hge⟩)])) ?_
 intro hin mm w aa pr;have c1:¬ (refs.any (fun k=>decide ((S.aH.length:Int)≤k))=true):=by
  rw[List.any_eq_true];rintro⟨k,hk,he⟩
  have:=hin k hk
  simp at he;omega
 have hg:=Rl hk0b.1 (hin k0 hk0m)
 have hk0z:refs[(0:Int).toNat]?=some k0:=hk0
 have hk0n:=hin k0 hk0m;obtain⟨g1,g2,g3,-⟩:=G.FM _ (List.mem_of_getElem? hg)
 dsimp only at g1 g2 g3
 obtain⟨g,hge⟩:∃g,S.rc k0=g:=⟨_,rfl⟩
 have hg0:∀k∈refs.take 1,(S.rc k).aU=g.aU:=by
  intro k hk;rw[List.take_one,List.head?_eq_getElem?,hk0]at hk;simp at hk
  rw[hk,hge]
 have hL2:∀r:bL×Int,(if refs.any (fun k=>decide ((S.rc k).aU≠g.aU))=true then(S,1)else if(S.aJ g.aU).closed=true then(S,7)else
   match eC a (refs.map (cJ S dst))with
   |(sh,f)=>if f≠0 then(S,f)else
   match iA S S refs sh 0 with
   |(T,all,f)=>if f≠0 then(S,f)else
   match dH T g.aU [⟨0,all⟩,⟨9,a-all⟩,⟨2,-a⟩]with
   |(T2,f)=>if f≠0 then(S,f)else(T2,0))=r→R=.bB [r.1.av,.i r.2]:=fun r hr=>hL r (by unfold vL;rw[if_neg c1,hk0d,hge];exact hr)
 clear hL hR;rw[hge]at hg g1 g2 g3;refine r2A.go (ev1 _ [(refs.length:Int),(S.aH.length:Int),a,k0,g.aU,g.item,g.loc] [.I S.aB,.I S.aD,.I S.done,.I dst,.I g.eT,.I g.value,.I g.rC,.I g.bZ,.I g.back] (sT S [aA refs]) (.d (az hk0z) (.d (aC hg) .nil))) (xK kn) pr (fd:=Sh (.i 1)) (bd:=lB S dst a refs++[gC g]) ?_
 intro mm w aa pr;refine afc o2 r2 r2l r2g r2x G h1 h40 hr ha hin (g:=g) ⟨by omega,by omega,by omega⟩ hg0 pr (fun k hk hne=>hL2 (S,1) (by rw[if_pos (List.any_eq_true.2 ⟨k,hk,by simpa using hne⟩)])) ?_
 intro hsame mm w aa pr;have c2:¬ (refs.any (fun k=>decide ((S.rc k).aU≠g.aU))=true):=by
  rw[List.any_eq_true];rintro⟨k,hk,he⟩
  simp[hsame k hk]at he
 rw[if_neg c2]at hL2;have x:Ix S g.aU g.item:=⟨g1.1,g1.2,g2.1,g2.2⟩
 have hR:=eQ h x;by_cases hc:(S.aJ g.aU).closed=true
 ·rw[if_pos hc]at hR hL2
  rw[hL2 _ rfl];exact IM.go (ev1 _ [(refs.length:Int),(S.aH.length:Int),a,g.aU,g.item] [.I S.aB,.I S.aD,.I S.done,.I dst,.I g.loc,.I g.eT,.I g.value,.I g.rC,.I g.bZ,.I g.back] (sT S [aA refs]) .nil) (xK (kc hR kn)) pr
 rw[if_neg hc]at hR hL2;have hWI:eH (refs.map (cJ S dst)):=by
  intro v hv;obtain⟨k,hk,rfl⟩:=List.mem_map.1 hv;have:=abQ G hw dst k
  exact⟨by omega,by omega⟩
 have hW:=yT G hw (basis:=dst) (refs:=refs) (by omega) (fun v hv=>by have:=hr v hv;exact⟨by omega,by omega⟩) hdst
 have hS:=E6 (t:=a) (ws:=refs.map (cJ S dst)) ⟨by omega,by omega⟩ hWI (by simp;omega)
 have ho:=xJ (t:=a) (ws:=refs.map (cJ S dst))
 rw[List.length_map]at ho;generalize refs.map (cJ S dst)=ws at *
 generalize eC a ws=sp at *;obtain⟨sh,f⟩:=sp;dsimp only at ho hS hL2
 rcases ho with⟨hf,t0,t1,hlen,hnn,hsum⟩|⟨hf,hnil⟩
 rotate_left
 ·have hf2:f≠0:=by omega
  rw[if_pos hf2]at hL2;rw[hL2 _ rfl];exact rsp.go (ev1 _ [(refs.length:Int),(S.aH.length:Int),a,g.aU,g.item,f] [.I S.aB,.I S.aD,.I S.done,.I dst,.I g.loc,.I g.eT,.I g.value,.I g.rC,.I g.bZ,.I g.back] (sT S [aA refs,aA ws,aA sh]) .nil) (xK (kc hR (kc hW (kc hS kn)))) pr
 subst hf;rw[if_neg (by simp)]at hL2
 refine r3A.go (ev1 _ [(refs.length:Int),(S.aH.length:Int),a,g.aU,g.item] [.I S.aB,.I S.aD,.I S.done,.I dst,.I g.loc,.I g.eT,.I g.value,.I g.rC,.I g.bZ,.I g.back] (sT S [aA refs,aA ws,aA sh]) .nil) (xK (kc hR (kc hW (kc hS kn)))) pr (fd:=lF3 (.lit 1 (aA sh)) (.i 0) (.i 0)) (bd:=lB S dst a refs++[gC g,sC S S.bG]) ?_
 intro mm w aa pr;refine al0 o3 r3 r3e r3x G hd h1 h40 hr ha hin (g:=g) ⟨by omega,by omega,by omega⟩ hlen hnn hsum pr ?_ ?_
 ·intro f hfe hne
  refine hL2 (S,f) ?_
  obtain⟨T,all,f',hsh⟩:∃T all f',iA S S refs sh 0=(T,all,f'):=⟨_,_,_,rfl⟩
  rw[hsh]at hfe ⊢;dsimp only at hfe ⊢
  subst hfe;rw[if_pos hne]
 intro E1 all hA K hall mm w aa pr;rw[hA]at hL2;dsimp only at hL2
 rw[if_neg (by simp)]at hL2
 have x3:=K.ix x;have hq:=dA K.ok x3 (l:=[⟨0,all⟩,⟨9,a-all⟩,⟨2,-a⟩]) (sX fmo) (by simp)
 obtain⟨k4,f4,z4⟩:=dY K.ok x3 [⟨0,all⟩,⟨9,a-all⟩,⟨2,-a⟩]
 generalize dH (S.aZ E1) g.aU [⟨0,all⟩,⟨9,a-all⟩,⟨2,-a⟩]=b at *
 obtain⟨T2,f⟩:=b;dsimp only at *
 obtain⟨E2,rfl⟩:=(K.trans k4).ex
 by_cases h0:f=0
 ·subst h0
  rw[if_neg (by simp)]at hL2
  rw[hL2 _ rfl];exact rxo.go (ev1 _ [(refs.length:Int),(S.aH.length:Int),a,g.aU,g.item,all] [.I S.aB,.I S.aD,.I S.done,.I dst,.I g.loc,.I g.eT,.I g.value,.I g.rC,.I g.bZ,.I g.back] (sT S [aA refs,aN E1,aA sh,aN E2]) .nil) (xK (kc hq kn)) pr
 ·rw[if_pos h0]at hL2
  rw[hL2 _ rfl];have f2:1≤f∧f≤20:=by unfold fF at f4;omega
  exact rxe.go (ev1 _ [(refs.length:Int),(S.aH.length:Int),a,g.aU,g.item,all,f] [.I S.aB,.I S.aD,.I S.done,.I dst,.I g.loc,.I g.eT,.I g.value,.I g.rC,.I g.bZ,.I g.back] (sT S [aA refs,aN E1,aA sh,aN E2]) .nil) (xK (kc hq kn)) pr
end
end LD
theorem EH {S:bL} (G:Gn S) (hd:S.done≤1000000):∀(ks vs:List Int) (T:bL) (all:Int),Kn S T→(∀k∈ks,0≤k∧k<S.aH.length)→(∀v∈vs,0≤v∧v≤1125899906842624)→vs.length=ks.length→Kn S (iA S T ks vs all).1∧fF (iA S T ks vs all).2.2
 |[],vs,T,all,K,_,_,_=>⟨K,⟨by simp[iA],by simp[iA]⟩⟩
 |k::ks,[],T,all,K,_,_,h=>by simp at h
 |k::ks,v::vs,T,all,K,hk,hv,h=>by
  rw[yN];have hkb:=hk k (by simp)
  have hh:=LD.Rl hkb.1 hkb.2;obtain⟨q1,q2,q3,q4,q5,q6,q7,q8⟩:=G.FM _ (List.mem_of_getElem? hh)
  dsimp only at q1 q2 q3 q4 q5 q6 q7 q8
  have hvb:=hv v (by simp)
  have x1:Ix T (S.rc k).aU (S.rc k).item:=K.ix ⟨q1.1,q1.2,q2.1,q2.2⟩
  have hdT:T.done≤1000000:=by rw[K.eq];exact hd
  obtain⟨-,k1,c1,f1⟩:=abv (rv:=(S.rc k).value) (ro:=(S.rc k).rC) (ra:=(S.rc k).bZ) (v:=v) (K.gn G) hdT x1 q3 q4 q8 hvb
  have e0:(⟨(S.rc k).aU,(S.rc k).item,(S.rc k).loc,(S.rc k).eT,(S.rc k).value,(S.rc k).rC,(S.rc k).bZ,(S.rc k).back⟩:yJ)=S.rc k:=rfl
  rw[e0]at k1 f1;split
  ·exact⟨K,f1⟩
  ·exact EH G hd ks vs _ _ (K.trans k1) (fun k hk'=>hk k (by simp[hk'])) (fun v hv'=>hv v (by simp[hv'])) (by simpa using h)
theorem akz {S:bL} {dst a:Int} {refs:List Int} (G:Gn S) (hd:S.done≤1000000) (hw:∀v∈S.weights,0≤v∧v≤1073741824) (h1:1≤refs.length) (h40:refs.length≤40) (hr:∀k∈refs,0≤k∧k≤39) (hdst:jY dst) (ha:0≤a∧a≤1125899906842624) :
  Ck 53 [S.av,qM dst a refs] (.bB [(vL S dst a refs).1.av,.i (vL S dst a refs).2])∧mY S (vL S dst a refs):=by
 refine⟨LD.walk LD.IB LD.sU LD.zG LD.alF LD.agR LD.ady LD.ajT LD.ajS LD.agO LD.agP LD.agQ LD.ajR LD.ajO LD.ajN LD.ajQ LD.agN LD.adw LD.ajP LD.adx LD.abU G hd hw h1 h40 hr hdst ha,?_⟩
 unfold vL;split
 ·exact .bad G ⟨by simp,by simp⟩
 ·rename_i c1
  split
  ·exact .bad G ⟨by simp,by simp⟩
  ·split
   ·exact .bad G ⟨by simp,by simp⟩
   ·have hin:∀k∈refs,0≤k∧k<S.aH.length:=by
     intro k hk;refine⟨(hr k hk).1,?_⟩
     rcases Int.lt_or_le k S.aH.length with h|h
     ·exact h
     ·exact absurd (List.any_eq_true.2 ⟨k,hk,by simpa using h⟩) c1
    have ho:=xJ (t:=a) (ws:=refs.map (cJ S dst))
    rw[List.length_map]at ho;generalize eC a (refs.map (cJ S dst))=sp at *
    obtain⟨sh,f⟩:=sp;dsimp only at ho ⊢
    split
    ·exact .bad G ⟨by omega,by omega⟩
    ·rename_i hf
     rcases ho with⟨-,t0,t1,hlen,hnn,hsum⟩|⟨hf2,-⟩
     rotate_left
     ·omega
     obtain⟨K,e1⟩:=EH G hd refs sh S 0 (.refl G.toStOk) hin (fun v hv=>by have:=hnn v hv;omega) hlen
     generalize iA S S refs sh 0=r at *;obtain⟨T,all,f2⟩:=r;dsimp only at K e1 ⊢
     split
     ·exact .bad G e1
     ·have hm:refs.headD 0∈refs:=by cases refs with|nil=>simp at h1|cons x t=>simp
      have hb:=hin _ hm;have hh:=LD.Rl hb.1 hb.2;obtain⟨q1,q2,-⟩:=G.FM _ (List.mem_of_getElem? hh)
      dsimp only at q1 q2
      have x:Ix T (S.rc (refs.headD 0)).aU (S.rc (refs.headD 0)).item:=K.ix ⟨q1.1,q1.2,q2.1,q2.2⟩
      obtain⟨k4,f4,z4⟩:=dY K.ok x [⟨0,all⟩,⟨9,a-all⟩,⟨2,-a⟩]
      generalize dH T (S.rc (refs.headD 0)).aU [⟨0,all⟩,⟨9,a-all⟩,⟨2,-a⟩]=b at *
      obtain⟨T2,f3⟩:=b;dsimp only at k4 f4 ⊢
      split
      ·exact .bad G f4
      ·exact .ok (K.trans k4) ((K.trans k4).gn G) rfl rfl rfl rfl rfl rfl
end
section
open Mc
set_option maxRecDepth 1000000
structure LeA (x y:AV):Prop where
 rd:∀A w v,@cO dI dN A w x v→@cO dI dN A w y v
 one:x.one=true→y.one=true
inductive LeL:List AV→List AV→Prop
 |nil:LeL [] []
 |cons {x y:AV} {a b:List AV} (h:LeA x y) (t:LeL a b):LeL (x::a) (y::b)
theorem LeA.refl (x:AV):LeA x x:=⟨fun _ _ _ h=>h,fun h=>h⟩
theorem LeL.refl:∀(l:List AV),LeL l l
 |[]=>.nil
 |x::l=>.cons (.refl x) (.refl l)
theorem LeA.emp (s:Nat):LeA .emp (.lit s []):=⟨fun _ _ _ h=>by cases h;exact @cO.lJ dI dN _ _ s _ 0 (Nat.zero_le _),fun _=>rfl⟩
theorem LeL.get:∀{a b:List AV},LeL a b→a.length=b.length∧∀(j:Nat) (y:AV),b[j]?=some y→∃x,a[j]?=some x∧LeA x y
 |_,_,.nil=>⟨rfl,fun j y h=>by simp at h⟩
 |_,_,.cons h t=>by
  obtain⟨h1,h2⟩:=t.get;refine⟨by simp[h1],fun j y hy=>?_⟩
  cases j with
  |zero=>simp at hy;subst hy;exact⟨_,rfl,h⟩
  |succ j=>simp at hy;simpa using h2 j y hy
theorem LeA.agg {a b:List AV} (h:LeL a b):LeA (.agg a) (.agg b):=by
 obtain⟨h1,h2⟩:=h.get;refine⟨fun A w v hr=>?_,fun h=>by cases h⟩
 cases hr with
 |agg _ vs hl h3 h4 =>
  refine @cO.agg dI dN _ _ _ vs (by rw[hl,h1]) ?_ ?_
  ·intro i y hy
   obtain⟨x,g1,g2⟩:=h2 i y hy;exact g2.one (h3 i x g1)
  ·intro i y hy
   obtain⟨x,g1,g2⟩:=h2 i y hy;exact g2.rd _ _ _ (h4 i x g1)
theorem LeA.bB {a b:List AV} (h:LeL a b):LeA (.bB a) (.bB b):=by
 obtain⟨h1,h2⟩:=h.get;refine⟨fun A w v hr=>?_,fun h=>by cases h⟩
 cases hr with
 |bB _ vs hl h4 =>
  refine @cO.bB dI dN _ _ _ vs (by rw[hl,h1]) ?_
  intro i y hy;obtain⟨x,g1,g2⟩:=h2 i y hy;exact g2.rd _ _ _ (h4 i x g1)
theorem LeA.set {s:Nat} {l:List (List AV)} {k:Nat} {r r':List AV} (h:LeL r r'):LeA (.lit s (l.set k r)) (.lit s (l.set k r')):=by
 obtain⟨h1,h2⟩:=h.get;have row:∀(i:Nat) (e':List AV),(l.set k r')[i]?=some e'→∃e,(l.set k r)[i]?=some e∧LeL e e':=by
  intro i e' he;rw[List.getElem?_set]at he ⊢;split
  ·rename_i hi
   rw[if_pos hi]at he;split
   ·rename_i hk
    rw[if_pos hk]at he;cases he;exact⟨_,rfl,h⟩
   ·rename_i hk
    rw[if_neg hk]at he;cases he
  ·rename_i hi
   rw[if_neg hi]at he;exact⟨_,he,.refl _⟩
 have find:∀(i j:Nat) (y:AV),fD (l.set k r') i j=some y→∃x,fD (l.set k r) i j=some x∧LeA x y:=by
  intro i j y hy;unfold fD at hy ⊢;cases hb:(l.set k r')[i]? with
  |none=>rw[hb]at hy;cases hy
  |some e =>
   rw[hb]at hy;obtain⟨e',g1,g2⟩:=row i e hb;obtain⟨x,q1,q2⟩:=g2.get.2 j y hy;exact⟨x,by rw[g1];exact q1,q2⟩
 refine⟨fun A w v hr=>?_,fun _=>rfl⟩
 have hl:(l.set k r).length=(l.set k r').length:=by simp
 generalize l.set k r=z at *;cases hr with
 |lit _ _ bb off cap vs hA hb hc hsz h3 hv h4 =>
  rw[hl];refine @cO.lit dI dN _ _ s _ bb off cap vs hA hb (by rw[←hl];exact hc) ?_ ?_ ?_ ?_
  ·intro e he
   obtain⟨i,hi⟩:=List.mem_iff_getElem?.1 he
   obtain⟨e',g1,g2⟩:=row i e hi;rw[←g2.get.1];exact hsz e' (List.mem_of_getElem? g1)
  ·intro i j y hy
   obtain⟨x,g1,g2⟩:=find i j y hy;exact g2.one (h3 i j x g1)
  ·intro i j y hy
   obtain⟨x,g1,g2⟩:=find i j y hy;exact hv i j x g1
  ·intro i j y hy
   obtain⟨x,g1,g2⟩:=find i j y hy;exact g2.rd _ _ _ (h4 i j x g1)
 |lJ _ a0 cap hm =>
  have e:l.set k r'=[]:=List.length_eq_zero_iff.1 (by rw[←hl];rfl)
  rw[e];exact @cO.lJ dI dN _ _ s a0 cap hm
theorem ama {P:Program} {k:FuncId} {xs:List AV} {r r':AV} (h:CK P k xs r) (hl:LeA r r') (hc:Cl r'):CK P k xs r':=by
 refine⟨h.args,hc,?_⟩
 intro A w vs hA hG hlen hv;refine(h.ok A w vs hA hG hlen hv).mono ?_
 rintro e w' ⟨v,rfl,g,b⟩
 exact⟨v,rfl,hl.rd _ _ _ g,b⟩
theorem aib {k:FuncId} {xs:List AV} {S:bL} {e now:Int} {c:Bool} {P B R Pr D:List (List AV)} [jH P] [jH B] [jH R] [jH Pr] [jH D] (h:Ck k xs (.bB [S.setRow e [.i now,.c (.bool c),.lit 4 P,.lit 1 B,.lit 11 R,.lit 1 Pr,.lit 1 D,.emp],.i 0])):Ck k xs (.bB [S.setRow e (xA now c P B R Pr D []),.i 0]):=by
 refine ama h (.bB (.cons (.agg ?_) (.cons (.refl _) .nil))) (inferInstance:yC _).out
 exact .cons (.refl _) (.cons (.refl _) (.cons (.refl _) (.cons (.refl _) (.cons (.refl _) (.cons (.set (.cons (.refl _) (.cons (.refl _) (.cons (.refl _) (.cons (.refl _) (.cons (.refl _) (.cons (.refl _) (.cons (.refl _) (.cons (.emp 8) .nil))))))))) (.refl _))))))
theorem qD {xs:List Int} {z:List (List Int)} {p:Poly} (k:Nat) (hp:bR (fun i=>xs.getD i 0) p=k) (h:∀j,j<z.length→((z.getD j []).length=11)) (hk:k<z.length:=by omega):(bQ z)[(bR (fun i=>xs.getD i 0) p).toNat]?=some [.i ((z.getD k []).getD 0 0),.i ((z.getD k []).getD 1 0),.i ((z.getD k []).getD 2 0),.i ((z.getD k []).getD 3 0),.i ((z.getD k []).getD 4 0),.i ((z.getD k []).getD 5 0),.i ((z.getD k []).getD 6 0),.i ((z.getD k []).getD 7 0),.i ((z.getD k []).getD 8 0),.i ((z.getD k []).getD 9 0),.i ((z.getD k []).getD 10 0)]:=by
 rw[hp];have l:=h k hk;have g:=getD_some (l:=z) (d:=[]) hk
 obtain⟨a0,a1,a2,a3,a4,a5,a6,a7,a8,a9,a10,e⟩:=OW l;rw[e]at g ⊢;rw[bQ,List.getElem?_map,Int.toNat_natCast,g];rfl
theorem afh {α:Type} {l:List α} (h:l.length=1):∃a0,l=[a0]:=by
 match l,h with
 |[a0],_=>exact⟨a0,rfl⟩
theorem iE {α:Type} {l:List α} (h:l.length=2):∃a0 a1,l=[a0,a1]:=by
 match l,h with
 |[a0,a1],_=>exact⟨a0,a1,rfl⟩
theorem iD {α:Type} {l:List α} (h:l.length=3):∃a0 a1 a2,l=[a0,a1,a2]:=by
 match l,h with
 |[a0,a1,a2],_=>exact⟨a0,a1,a2,rfl⟩
theorem jD {α:Type} {l:List α} (h:l.length=4):∃a0 a1 a2 a3,l=[a0,a1,a2,a3]:=by
 match l,h with
 |[a0,a1,a2,a3],_=>exact⟨a0,a1,a2,a3,rfl⟩
theorem afg {α:Type} {l:List α} (h:l.length=5):∃a0 a1 a2 a3 a4,l=[a0,a1,a2,a3,a4]:=by
 match l,h with
 |[a0,a1,a2,a3,a4],_=>exact⟨a0,a1,a2,a3,a4,rfl⟩
def kN (v:Int):List Int:=[v,0,0,0,0,0,0,0,0,0,0]
def Li (S:bL) (e:Int):dR:=⟨⟨1+(S.aJ e).now,false,(S.aJ e).bM,(S.aJ e).eJ,(List.range S.weights.length).map (fun i:Nat=>kN (cE S e i).1.v),(S.aJ e).bD,(S.aJ e).down⟩,[]⟩
def Ns (S:bL) (e:Int):bL×Int :=
 if(S.aJ e).closed=false then(S,8)else if S.aD≤(S.aJ e).now then(S,11)else(S.bT e (Li S e),0)
section
variable {S:bL} {e:Int}
set_option maxHeartbeats 2000000 in
theorem X5 (G:Gn S) (x:Ix S e 0) (hp:1≤S.aD∧S.aD≤12):Ck 39 [S.av,.i e] (.bB [(Ns S e).1.av,.i (Ns S e).2]):=by
 have h:=G.toStOk;have E:=h.CJ x;have hbl:=E.bl;have hpr:=E.pr;have hdl:=E.dl;have hpl:=E.pl;have PF:=E.rl
 have:=E.now;have:=x.e0;have:=x.e1;have:=h.hn;have:=h.hw;have:=x.i1
 have hat:=h.at_ x;have hro:∀j,j<(S.aJ e).aF.length→((S.aJ e).aF.getD j []).length=11:=fun j hj=>(E.rr _ (eL hj)).1
 have hw:∀i:Int,0≤i→i<S.weights.length→Ck 52 [S.av,.i e,.i i] (cE S e i).1.av:=fun i h0 h1=>EZ h ⟨x.e0,x.e1,h0,h1⟩
 unfold Ns;obtain⟨cl,nP⟩:∃cl,cl=(S.aJ e).closed:=⟨_,rfl⟩
 have hat:S.bG[e.toNat]?=some ⟨⟨(S.aJ e).now,cl,(S.aJ e).bM,(S.aJ e).eJ,(S.aJ e).aF,(S.aJ e).bD,(S.aJ e).down⟩,(S.aJ e).ahead⟩:=by rw[nP];exact hat
 rw[←nP];cases cl with
 |false=>rw[if_pos rfl];exact cw _ (ev1 { vars:=Kaq,facts:=[Ka6],lens:=[(0,[([2],1)])],hH:=[(0,[([1],1)],[.v 3,Kcd,.q 4 7,.q 1 8,.q 11 9,.q 1 10,.q 1 11,.q 8 12])] } [S.aD,e,(S.bG.length:Int),(S.aJ e).now] [.I S.aB,.I S.aD,.I S.done] (sT S [bU (S.aJ e).bM,aA (S.aJ e).eJ,bQ (S.aJ e).aF,aA (S.aJ e).bD,aA (S.aJ e).down,cN (S.aJ e).ahead]) (.d (aE hat) .nil)) Z2 (.bB [Uk,.i 8]) kn
 |true =>
  rw[if_neg (by simp)]
  by_cases hl:S.aD≤(S.aJ e).now
  ·rw[if_pos hl];exact cw _ (ev1 { vars:=Kaq,facts:=[Ka6,([([0],1),([3],-1)],-200,0)],lens:=[(0,[([2],1)])],hH:=[Zw] } [S.aD,e,(S.bG.length:Int),(S.aJ e).now] [.I S.aB,.I S.aD,.I S.done] (sT S [bU (S.aJ e).bM,aA (S.aJ e).eJ,bQ (S.aJ e).aF,aA (S.aJ e).bD,aA (S.aJ e).down,cN (S.aJ e).ahead]) (.d (aE hat) .nil)) Z2 (.bB [Uk,.i 11]) kn
  rw[if_neg hl];have hav:(S.bT e (Li S e)).av=S.setRow e (xA (1+(S.aJ e).now) false (bU (S.aJ e).bM) (aA (S.aJ e).eJ) (bQ ((List.range S.weights.length).map (fun i:Nat=>kN (cE S e i).1.v))) (aA (S.aJ e).bD) (aA (S.aJ e).down) []):=by
   rw[bL.mA];rfl
  rw[hav];apply aib
  unfold dR.acb at *
  rcases(by omega:S.weights.length=1∨S.weights.length=2∨S.weights.length=3∨S.weights.length=4∨S.weights.length=5)with hn|hn|hn|hn|hn
  ·have hw0:=hw 0 (by omega) (by omega)
   have hrs:bQ ((List.range S.weights.length).map (fun i:Nat=>kN (cE S e i).1.v))=(bQ (S.aJ e).aF).set 0 (iC (kN (cE S e 0).1.v)):=by
    have hl2:=PF.trans hn;rw[hn];generalize (S.aJ e).aF=z at hl2
    obtain⟨z0,rfl⟩:=afh hl2;rfl
   rw[hrs];clear hw hrs;generalize (cE S e 0).1=W0 at *
   obtain⟨wq0,wv0,wp0⟩:=W0;exact cw _ (ev1 { vars:=Kaq,facts:=Wb,lens:=[(0,[([2],1)]),(7,[([],2)]),(8,[([],17)]),(9,[([],1)]),(10,[([],1)]),(11,[([],1)])],hH:=[Zw,(9,[],Vl)],bN:=[(52,Zx,(.agg [.o 14,.o 15,.o 16]))] } [S.aD,e,(S.bG.length:Int),(S.aJ e).now] [.I S.aB,.I S.aD,.I S.done,.I (((S.aJ e).aF.getD 0 []).getD 0 0),.I (((S.aJ e).aF.getD 0 []).getD 1 0),.I (((S.aJ e).aF.getD 0 []).getD 2 0),.I (((S.aJ e).aF.getD 0 []).getD 3 0),.I (((S.aJ e).aF.getD 0 []).getD 4 0),.I (((S.aJ e).aF.getD 0 []).getD 5 0),.I (((S.aJ e).aF.getD 0 []).getD 6 0),.I (((S.aJ e).aF.getD 0 []).getD 7 0),.I (((S.aJ e).aF.getD 0 []).getD 8 0),.I (((S.aJ e).aF.getD 0 []).getD 9 0),.I (((S.aJ e).aF.getD 0 []).getD 10 0),.I wq0,.I wv0,.I wp0] (sT S [bU (S.aJ e).bM,aA (S.aJ e).eJ,bQ (S.aJ e).aF,aA (S.aJ e).bD,aA (S.aJ e).down,cN (S.aJ e).ahead]) (.d (aE hat) (.d (qD 0 rfl hro) .nil))) Z2 (.bB [(.agg [.o 0,.v 0,.q 1 1,.q 1 2,.q 1 3,(.seq 8 0 [([([1],1)],[KbR,Kcd,.q 4 7,.q 1 8,(.seq 11 9 [([],[.o 15,.i 0,.i 0,.i 0,.i 0,.i 0,.i 0,.i 0,.i 0,.i 0,.i 0])] []),.q 1 10,.q 1 11,.emp])] []),.q 8 4,.q 9 5,.q 6 6,.o 2]),.i 0]) (kc hw0 kn)
  ·have hw0:=hw 0 (by omega) (by omega)
   have hw1:=hw 1 (by omega) (by omega)
   have hrs:bQ ((List.range S.weights.length).map (fun i:Nat=>kN (cE S e i).1.v))=((bQ (S.aJ e).aF).set 0 (iC (kN (cE S e 0).1.v))).set 1 (iC (kN (cE S e 1).1.v)):=by
    have hl2:=PF.trans hn;rw[hn];generalize (S.aJ e).aF=z at hl2
    obtain⟨z0,z1,rfl⟩:=iE hl2;rfl
   rw[hrs];clear hw hrs;generalize (cE S e 0).1=W0 at *
   obtain⟨wq0,wv0,wp0⟩:=W0;generalize (cE S e 1).1=W1 at *
   obtain⟨wq1,wv1,wp1⟩:=W1;exact cw _ (ev1 { vars:=Kaq,facts:=Wb,lens:=[(0,[([2],1)]),(7,[([],4)]),(8,[([],17)]),(9,[([],2)]),(10,[([],2)]),(11,[([],2)])],hH:=[Zw,(9,[],Vl),ZL],bN:=[(52,Zx,(.agg [.o 25,.o 26,.o 27])),(52,Zy,(.agg [.o 28,.o 29,.o 30]))] } [S.aD,e,(S.bG.length:Int),(S.aJ e).now] [.I S.aB,.I S.aD,.I S.done,.I (((S.aJ e).aF.getD 0 []).getD 0 0),.I (((S.aJ e).aF.getD 0 []).getD 1 0),.I (((S.aJ e).aF.getD 0 []).getD 2 0),.I (((S.aJ e).aF.getD 0 []).getD 3 0),.I (((S.aJ e).aF.getD 0 []).getD 4 0),.I (((S.aJ e).aF.getD 0 []).getD 5 0),.I (((S.aJ e).aF.getD 0 []).getD 6 0),.I (((S.aJ e).aF.getD 0 []).getD 7 0),.I (((S.aJ e).aF.getD 0 []).getD 8 0),.I (((S.aJ e).aF.getD 0 []).getD 9 0),.I (((S.aJ e).aF.getD 0 []).getD 10 0),.I (((S.aJ e).aF.getD 1 []).getD 0 0),.I (((S.aJ e).aF.getD 1 []).getD 1 0),.I (((S.aJ e).aF.getD 1 []).getD 2 0),.I (((S.aJ e).aF.getD 1 []).getD 3 0),.I (((S.aJ e).aF.getD 1 []).getD 4 0),.I (((S.aJ e).aF.getD 1 []).getD 5 0),.I (((S.aJ e).aF.getD 1 []).getD 6 0),.I (((S.aJ e).aF.getD 1 []).getD 7 0),.I (((S.aJ e).aF.getD 1 []).getD 8 0),.I (((S.aJ e).aF.getD 1 []).getD 9 0),.I (((S.aJ e).aF.getD 1 []).getD 10 0),.I wq0,.I wv0,.I wp0,.I wq1,.I wv1,.I wp1] (sT S [bU (S.aJ e).bM,aA (S.aJ e).eJ,bQ (S.aJ e).aF,aA (S.aJ e).bD,aA (S.aJ e).down,cN (S.aJ e).ahead]) (.d (aE hat) (.d (qD 0 rfl hro) (.d (qD 1 rfl hro) .nil)))) Z2 (.bB [(.agg [.o 0,.v 0,.q 1 1,.q 1 2,.q 1 3,(.seq 8 0 [([([1],1)],[KbR,Kcd,.q 4 7,.q 1 8,(.seq 11 9 [([],[.o 26,.i 0,.i 0,.i 0,.i 0,.i 0,.i 0,.i 0,.i 0,.i 0,.i 0]),([([],1)],[.o 29,.i 0,.i 0,.i 0,.i 0,.i 0,.i 0,.i 0,.i 0,.i 0,.i 0])] []),.q 1 10,.q 1 11,.emp])] []),.q 8 4,.q 9 5,.q 6 6,.o 2]),.i 0]) (kc hw0 (kc hw1 kn))
  ·have hw0:=hw 0 (by omega) (by omega)
   have hw1:=hw 1 (by omega) (by omega)
   have hw2:=hw 2 (by omega) (by omega)
   have hrs:bQ ((List.range S.weights.length).map (fun i:Nat=>kN (cE S e i).1.v))=(((bQ (S.aJ e).aF).set 0 (iC (kN (cE S e 0).1.v))).set 1 (iC (kN (cE S e 1).1.v))).set 2 (iC (kN (cE S e 2).1.v)):=by
    have hl2:=PF.trans hn;rw[hn];generalize (S.aJ e).aF=z at hl2
    obtain⟨z0,z1,z2,rfl⟩:=iD hl2;rfl
   rw[hrs];clear hw hrs;generalize (cE S e 0).1=W0 at *
   obtain⟨wq0,wv0,wp0⟩:=W0;generalize (cE S e 1).1=W1 at *
   obtain⟨wq1,wv1,wp1⟩:=W1;generalize (cE S e 2).1=W2 at *
   obtain⟨wq2,wv2,wp2⟩:=W2;exact cw _ (ev1 { vars:=Kaq,facts:=Wb,lens:=[(0,[([2],1)]),(7,[([],6)]),(8,[([],17)]),(9,[([],3)]),(10,[([],3)]),(11,[([],3)])],hH:=[Zw,(9,[],Vl),ZL,ZM],bN:=[(52,Zx,(.agg [.o 36,.o 37,.o 38])),(52,Zy,(.agg [.o 39,.o 40,.o 41])),(52,Zz,(.agg [.o 42,.o 43,.o 44]))] } [S.aD,e,(S.bG.length:Int),(S.aJ e).now] [.I S.aB,.I S.aD,.I S.done,.I (((S.aJ e).aF.getD 0 []).getD 0 0),.I (((S.aJ e).aF.getD 0 []).getD 1 0),.I (((S.aJ e).aF.getD 0 []).getD 2 0),.I (((S.aJ e).aF.getD 0 []).getD 3 0),.I (((S.aJ e).aF.getD 0 []).getD 4 0),.I (((S.aJ e).aF.getD 0 []).getD 5 0),.I (((S.aJ e).aF.getD 0 []).getD 6 0),.I (((S.aJ e).aF.getD 0 []).getD 7 0),.I (((S.aJ e).aF.getD 0 []).getD 8 0),.I (((S.aJ e).aF.getD 0 []).getD 9 0),.I (((S.aJ e).aF.getD 0 []).getD 10 0),.I (((S.aJ e).aF.getD 1 []).getD 0 0),.I (((S.aJ e).aF.getD 1 []).getD 1 0),.I (((S.aJ e).aF.getD 1 []).getD 2 0),.I (((S.aJ e).aF.getD 1 []).getD 3 0),.I (((S.aJ e).aF.getD 1 []).getD 4 0),.I (((S.aJ e).aF.getD 1 []).getD 5 0),.I (((S.aJ e).aF.getD 1 []).getD 6 0),.I (((S.aJ e).aF.getD 1 []).getD 7 0),.I (((S.aJ e).aF.getD 1 []).getD 8 0),.I (((S.aJ e).aF.getD 1 []).getD 9 0),.I (((S.aJ e).aF.getD 1 []).getD 10 0),.I (((S.aJ e).aF.getD 2 []).getD 0 0),.I (((S.aJ e).aF.getD 2 []).getD 1 0),.I (((S.aJ e).aF.getD 2 []).getD 2 0),.I (((S.aJ e).aF.getD 2 []).getD 3 0),.I (((S.aJ e).aF.getD 2 []).getD 4 0),.I (((S.aJ e).aF.getD 2 []).getD 5 0),.I (((S.aJ e).aF.getD 2 []).getD 6 0),.I (((S.aJ e).aF.getD 2 []).getD 7 0),.I (((S.aJ e).aF.getD 2 []).getD 8 0),.I (((S.aJ e).aF.getD 2 []).getD 9 0),.I (((S.aJ e).aF.getD 2 []).getD 10 0),.I wq0,.I wv0,.I wp0,.I wq1,.I wv1,.I wp1,.I wq2,.I wv2,.I wp2] (sT S [bU (S.aJ e).bM,aA (S.aJ e).eJ,bQ (S.aJ e).aF,aA (S.aJ e).bD,aA (S.aJ e).down,cN (S.aJ e).ahead]) (.d (aE hat) (.d (qD 0 rfl hro) (.d (qD 1 rfl hro) (.d (qD 2 rfl hro) .nil))))) Z2 (.bB [(.agg [.o 0,.v 0,.q 1 1,.q 1 2,.q 1 3,(.seq 8 0 [([([1],1)],[KbR,Kcd,.q 4 7,.q 1 8,(.seq 11 9 [([],[.o 37,.i 0,.i 0,.i 0,.i 0,.i 0,.i 0,.i 0,.i 0,.i 0,.i 0]),([([],1)],[.o 40,.i 0,.i 0,.i 0,.i 0,.i 0,.i 0,.i 0,.i 0,.i 0,.i 0]),([([],2)],[.o 43,.i 0,.i 0,.i 0,.i 0,.i 0,.i 0,.i 0,.i 0,.i 0,.i 0])] []),.q 1 10,.q 1 11,.emp])] []),.q 8 4,.q 9 5,.q 6 6,.o 2]),.i 0]) (kc hw0 (kc hw1 (kc hw2 kn)))
  ·have hw0:=hw 0 (by omega) (by omega)
   have hw1:=hw 1 (by omega) (by omega)
   have hw2:=hw 2 (by omega) (by omega)
   have hw3:=hw 3 (by omega) (by omega)
   have hrs:bQ ((List.range S.weights.length).map (fun i:Nat=>kN (cE S e i).1.v))=((((bQ (S.aJ e).aF).set 0 (iC (kN (cE S e 0).1.v))).set 1 (iC (kN (cE S e 1).1.v))).set 2 (iC (kN (cE S e 2).1.v))).set 3 (iC (kN (cE S e 3).1.v)):=by
    have hl2:=PF.trans hn;rw[hn];generalize (S.aJ e).aF=z at hl2
    obtain⟨z0,z1,z2,z3,rfl⟩:=jD hl2;rfl
   rw[hrs];clear hw hrs;generalize (cE S e 0).1=W0 at *
   obtain⟨wq0,wv0,wp0⟩:=W0;generalize (cE S e 1).1=W1 at *
   obtain⟨wq1,wv1,wp1⟩:=W1;generalize (cE S e 2).1=W2 at *
   obtain⟨wq2,wv2,wp2⟩:=W2;generalize (cE S e 3).1=W3 at *
   obtain⟨wq3,wv3,wp3⟩:=W3;exact cw _ (ev1 { vars:=Kaq,facts:=Wb,lens:=[(0,[([2],1)]),(7,[([],8)]),(8,[([],17)]),(9,[([],4)]),(10,[([],4)]),(11,[([],4)])],hH:=[Zw,(9,[],Vl),ZL,ZM,ZN],bN:=[(52,Zx,(.agg [.o 47,.o 48,.o 49])),(52,Zy,(.agg [.o 50,.o 51,.o 52])),(52,Zz,(.agg [.o 53,.o 54,.o 55])),(52,ZA,(.agg [.o 56,.o 57,.o 58]))] } [S.aD,e,(S.bG.length:Int),(S.aJ e).now] [.I S.aB,.I S.aD,.I S.done,.I (((S.aJ e).aF.getD 0 []).getD 0 0),.I (((S.aJ e).aF.getD 0 []).getD 1 0),.I (((S.aJ e).aF.getD 0 []).getD 2 0),.I (((S.aJ e).aF.getD 0 []).getD 3 0),.I (((S.aJ e).aF.getD 0 []).getD 4 0),.I (((S.aJ e).aF.getD 0 []).getD 5 0),.I (((S.aJ e).aF.getD 0 []).getD 6 0),.I (((S.aJ e).aF.getD 0 []).getD 7 0),.I (((S.aJ e).aF.getD 0 []).getD 8 0),.I (((S.aJ e).aF.getD 0 []).getD 9 0),.I (((S.aJ e).aF.getD 0 []).getD 10 0),.I (((S.aJ e).aF.getD 1 []).getD 0 0),.I (((S.aJ e).aF.getD 1 []).getD 1 0),.I (((S.aJ e).aF.getD 1 []).getD 2 0),.I (((S.aJ e).aF.getD 1 []).getD 3 0),.I (((S.aJ e).aF.getD 1 []).getD 4 0),.I (((S.aJ e).aF.getD 1 []).getD 5 0),.I (((S.aJ e).aF.getD 1 []).getD 6 0),.I (((S.aJ e).aF.getD 1 []).getD 7 0),.I (((S.aJ e).aF.getD 1 []).getD 8 0),.I (((S.aJ e).aF.getD 1 []).getD 9 0),.I (((S.aJ e).aF.getD 1 []).getD 10 0),.I (((S.aJ e).aF.getD 2 []).getD 0 0),.I (((S.aJ e).aF.getD 2 []).getD 1 0),.I (((S.aJ e).aF.getD 2 []).getD 2 0),.I (((S.aJ e).aF.getD 2 []).getD 3 0),.I (((S.aJ e).aF.getD 2 []).getD 4 0),.I (((S.aJ e).aF.getD 2 []).getD 5 0),.I (((S.aJ e).aF.getD 2 []).getD 6 0),.I (((S.aJ e).aF.getD 2 []).getD 7 0),.I (((S.aJ e).aF.getD 2 []).getD 8 0),.I (((S.aJ e).aF.getD 2 []).getD 9 0),.I (((S.aJ e).aF.getD 2 []).getD 10 0),.I (((S.aJ e).aF.getD 3 []).getD 0 0),.I (((S.aJ e).aF.getD 3 []).getD 1 0),.I (((S.aJ e).aF.getD 3 []).getD 2 0),.I (((S.aJ e).aF.getD 3 []).getD 3 0),.I (((S.aJ e).aF.getD 3 []).getD 4 0),.I (((S.aJ e).aF.getD 3 []).getD 5 0),.I (((S.aJ e).aF.getD 3 []).getD 6 0),.I (((S.aJ e).aF.getD 3 []).getD 7 0),.I (((S.aJ e).aF.getD 3 []).getD 8 0),.I (((S.aJ e).aF.getD 3 []).getD 9 0),.I (((S.aJ e).aF.getD 3 []).getD 10 0),.I wq0,.I wv0,.I wp0,.I wq1,.I wv1,.I wp1,.I wq2,.I wv2,.I wp2,.I wq3,.I wv3,.I wp3] (sT S [bU (S.aJ e).bM,aA (S.aJ e).eJ,bQ (S.aJ e).aF,aA (S.aJ e).bD,aA (S.aJ e).down,cN (S.aJ e).ahead]) (.d (aE hat) (.d (qD 0 rfl hro) (.d (qD 1 rfl hro) (.d (qD 2 rfl hro) (.d (qD 3 rfl hro) .nil)))))) Z2 (.bB [(.agg [.o 0,.v 0,.q 1 1,.q 1 2,.q 1 3,(.seq 8 0 [([([1],1)],[KbR,Kcd,.q 4 7,.q 1 8,(.seq 11 9 [([],[.o 48,.i 0,.i 0,.i 0,.i 0,.i 0,.i 0,.i 0,.i 0,.i 0,.i 0]),([([],1)],[.o 51,.i 0,.i 0,.i 0,.i 0,.i 0,.i 0,.i 0,.i 0,.i 0,.i 0]),([([],2)],[.o 54,.i 0,.i 0,.i 0,.i 0,.i 0,.i 0,.i 0,.i 0,.i 0,.i 0]),([([],3)],[.o 57,.i 0,.i 0,.i 0,.i 0,.i 0,.i 0,.i 0,.i 0,.i 0,.i 0])] []),.q 1 10,.q 1 11,.emp])] []),.q 8 4,.q 9 5,.q 6 6,.o 2]),.i 0]) (kc hw0 (kc hw1 (kc hw2 (kc hw3 kn))))
  ·have hw0:=hw 0 (by omega) (by omega)
   have hw1:=hw 1 (by omega) (by omega)
   have hw2:=hw 2 (by omega) (by omega)
   have hw3:=hw 3 (by omega) (by omega)
   have hw4:=hw 4 (by omega) (by omega)
   have hrs:bQ ((List.range S.weights.length).map (fun i:Nat=>kN (cE S e i).1.v))=(((((bQ (S.aJ e).aF).set 0 (iC (kN (cE S e 0).1.v))).set 1 (iC (kN (cE S e 1).1.v))).set 2 (iC (kN (cE S e 2).1.v))).set 3 (iC (kN (cE S e 3).1.v))).set 4 (iC (kN (cE S e 4).1.v)):=by
    have hl2:=PF.trans hn;rw[hn];generalize (S.aJ e).aF=z at hl2
    obtain⟨z0,z1,z2,z3,z4,rfl⟩:=afg hl2;rfl
   rw[hrs];clear hw hrs;generalize (cE S e 0).1=W0 at *
   obtain⟨wq0,wv0,wp0⟩:=W0;generalize (cE S e 1).1=W1 at *
   obtain⟨wq1,wv1,wp1⟩:=W1;generalize (cE S e 2).1=W2 at *
   obtain⟨wq2,wv2,wp2⟩:=W2;generalize (cE S e 3).1=W3 at *
   obtain⟨wq3,wv3,wp3⟩:=W3;generalize (cE S e 4).1=W4 at *
   obtain⟨wq4,wv4,wp4⟩:=W4;exact cw _ (ev1 { vars:=Kaq,facts:=Wb,lens:=[(0,[([2],1)]),(7,[([],10)]),(8,[([],17)]),(9,[([],5)]),(10,[([],5)]),(11,[([],5)])],hH:=[Zw,(9,[],Vl),ZL,ZM,ZN,(9,[([],4)],[.o 47,.o 48,.o 49,.o 50,.o 51,.o 52,.o 53,.o 54,.o 55,.o 56,.o 57])],bN:=[(52,Zx,(.agg [.o 58,.o 59,.o 60])),(52,Zy,(.agg [.o 61,.o 62,.o 63])),(52,Zz,(.agg [.o 64,.o 65,.o 66])),(52,ZA,(.agg [.o 67,.o 68,.o 69])),(52,[Uk,.v 1,.i 4],(.agg [.o 70,.o 71,.o 72]))] } [S.aD,e,(S.bG.length:Int),(S.aJ e).now] [.I S.aB,.I S.aD,.I S.done,.I (((S.aJ e).aF.getD 0 []).getD 0 0),.I (((S.aJ e).aF.getD 0 []).getD 1 0),.I (((S.aJ e).aF.getD 0 []).getD 2 0),.I (((S.aJ e).aF.getD 0 []).getD 3 0),.I (((S.aJ e).aF.getD 0 []).getD 4 0),.I (((S.aJ e).aF.getD 0 []).getD 5 0),.I (((S.aJ e).aF.getD 0 []).getD 6 0),.I (((S.aJ e).aF.getD 0 []).getD 7 0),.I (((S.aJ e).aF.getD 0 []).getD 8 0),.I (((S.aJ e).aF.getD 0 []).getD 9 0),.I (((S.aJ e).aF.getD 0 []).getD 10 0),.I (((S.aJ e).aF.getD 1 []).getD 0 0),.I (((S.aJ e).aF.getD 1 []).getD 1 0),.I (((S.aJ e).aF.getD 1 []).getD 2 0),.I (((S.aJ e).aF.getD 1 []).getD 3 0),.I (((S.aJ e).aF.getD 1 []).getD 4 0),.I (((S.aJ e).aF.getD 1 []).getD 5 0),.I (((S.aJ e).aF.getD 1 []).getD 6 0),.I (((S.aJ e).aF.getD 1 []).getD 7 0),.I (((S.aJ e).aF.getD 1 []).getD 8 0),.I (((S.aJ e).aF.getD 1 []).getD 9 0),.I (((S.aJ e).aF.getD 1 []).getD 10 0),.I (((S.aJ e).aF.getD 2 []).getD 0 0),.I (((S.aJ e).aF.getD 2 []).getD 1 0),.I (((S.aJ e).aF.getD 2 []).getD 2 0),.I (((S.aJ e).aF.getD 2 []).getD 3 0),.I (((S.aJ e).aF.getD 2 []).getD 4 0),.I (((S.aJ e).aF.getD 2 []).getD 5 0),.I (((S.aJ e).aF.getD 2 []).getD 6 0),.I (((S.aJ e).aF.getD 2 []).getD 7 0),.I (((S.aJ e).aF.getD 2 []).getD 8 0),.I (((S.aJ e).aF.getD 2 []).getD 9 0),.I (((S.aJ e).aF.getD 2 []).getD 10 0),.I (((S.aJ e).aF.getD 3 []).getD 0 0),.I (((S.aJ e).aF.getD 3 []).getD 1 0),.I (((S.aJ e).aF.getD 3 []).getD 2 0),.I (((S.aJ e).aF.getD 3 []).getD 3 0),.I (((S.aJ e).aF.getD 3 []).getD 4 0),.I (((S.aJ e).aF.getD 3 []).getD 5 0),.I (((S.aJ e).aF.getD 3 []).getD 6 0),.I (((S.aJ e).aF.getD 3 []).getD 7 0),.I (((S.aJ e).aF.getD 3 []).getD 8 0),.I (((S.aJ e).aF.getD 3 []).getD 9 0),.I (((S.aJ e).aF.getD 3 []).getD 10 0),.I (((S.aJ e).aF.getD 4 []).getD 0 0),.I (((S.aJ e).aF.getD 4 []).getD 1 0),.I (((S.aJ e).aF.getD 4 []).getD 2 0),.I (((S.aJ e).aF.getD 4 []).getD 3 0),.I (((S.aJ e).aF.getD 4 []).getD 4 0),.I (((S.aJ e).aF.getD 4 []).getD 5 0),.I (((S.aJ e).aF.getD 4 []).getD 6 0),.I (((S.aJ e).aF.getD 4 []).getD 7 0),.I (((S.aJ e).aF.getD 4 []).getD 8 0),.I (((S.aJ e).aF.getD 4 []).getD 9 0),.I (((S.aJ e).aF.getD 4 []).getD 10 0),.I wq0,.I wv0,.I wp0,.I wq1,.I wv1,.I wp1,.I wq2,.I wv2,.I wp2,.I wq3,.I wv3,.I wp3,.I wq4,.I wv4,.I wp4] (sT S [bU (S.aJ e).bM,aA (S.aJ e).eJ,bQ (S.aJ e).aF,aA (S.aJ e).bD,aA (S.aJ e).down,cN (S.aJ e).ahead]) (.d (aE hat) (.d (qD 0 rfl hro) (.d (qD 1 rfl hro) (.d (qD 2 rfl hro) (.d (qD 3 rfl hro) (.d (qD 4 rfl hro) .nil))))))) Z2 (.bB [(.agg [.o 0,.v 0,.q 1 1,.q 1 2,.q 1 3,(.seq 8 0 [([([1],1)],[KbR,Kcd,.q 4 7,.q 1 8,(.seq 11 9 [([],[.o 59,.i 0,.i 0,.i 0,.i 0,.i 0,.i 0,.i 0,.i 0,.i 0,.i 0]),([([],1)],[.o 62,.i 0,.i 0,.i 0,.i 0,.i 0,.i 0,.i 0,.i 0,.i 0,.i 0]),([([],2)],[.o 65,.i 0,.i 0,.i 0,.i 0,.i 0,.i 0,.i 0,.i 0,.i 0,.i 0]),([([],3)],[.o 68,.i 0,.i 0,.i 0,.i 0,.i 0,.i 0,.i 0,.i 0,.i 0,.i 0]),([([],4)],[.o 71,.i 0,.i 0,.i 0,.i 0,.i 0,.i 0,.i 0,.i 0,.i 0,.i 0])] []),.q 1 10,.q 1 11,.emp])] []),.q 8 4,.q 9 5,.q 6 6,.o 2]),.i 0]) (kc hw0 (kc hw1 (kc hw2 (kc hw3 (kc hw4 kn)))))
end
end
section
open Mc
set_option maxRecDepth 1000000
def jJ (e now:Int) (x:pZ):pZ:=if x.waits=true∧x.aU=e∧x.period=now then{ x with cost:=0,dV:=0 }else x
namespace RO
abbrev rF (e i:AV):List AV:=fr 90 [(1,e),(2,.ptr 10 0 0 0),(4,.ptr 10 3 0 0),(5,.i 0),(6,i)]
abbrev rB (S:bL) (E:List (List AV)) (c:List (List AV)):List Mc.bX:=[.cells 31 10 [[.i S.aB,.i S.aD,.lit 1 (aA S.weights),.lit 1 (aO S.methods),.lit 1 (aO S.cP),.own 76 8 1 0 S.bG.length,.lit 8 (gH S.aH),.own 137 9 2 0 S.aM.length,.lit 6 (gG S.bK),.i S.done]],.cells 76 8 E,.cells 137 9 c,.cells 31 10 V9]
noncomputable def body:Code:=(Tryz.f38).body.getD .skip
abbrev aiR (c:Code) (r:Option (RT Out)):Prop:=CG { vars:=Kb8,facts:=KaJ,lens:=HX,hH:=[(12,[],UZ),ZB] } c (KaD++List.replicate 88 .undef) [] [some 0,some 2,some 3,some 1] (rF (.v 1) (.i 0)) [JH,(.sc 76 8 0 [([([1],1)],UZ)] [] [([0],1)]),(.sc 137 9 5 [] [] [([2],1)]),Ux] r
noncomputable def Ak:Option (RT Out):=Tz { vars:=Kb8,facts:=KaJ,lens:=HX,hH:=[(12,[],UZ),ZB] } body (KaD++List.replicate 88 .undef:List AV).length (KaD++List.replicate 88 .undef) [] 0
theorem alu:aiR body Ak:=⟨rfl,by decide +kernel,by decide +kernel⟩
abbrev aiQ (c:Code):Prop:=gN { vars:=WV,facts:=[KaV,Ka7],lens:=HY,hH:=[(7,[([3],1)],[.v 4,.o 3,.o 4,.o 5,.o 6,.o 7,.o 8,.v 5,Kcd]),YP] } c (rF (.v 1) (.v 3)) Kp 0 [some 0,some 1,some 2,some 3] (rF (.v 1) KbR) Kp
theorem als:aiQ (bE Ak):=⟨_,rfl,by decide +kernel,by decide +kernel⟩
abbrev aek (c:Code):Prop:=gN { vars:=WV,facts:=[KaV,(Kcl,-100,-1),Ka7],lens:=HY,hH:=KV } c (rF (.v 1) (.v 3)) Kp 0 [some 0,some 1,some 2,some 3] (rF (.v 1) KbR) Kp
theorem ajx:aek (bE Ak):=⟨_,rfl,by decide +kernel,by decide +kernel⟩
abbrev ael (c:Code):Prop:=gN { vars:=WV,facts:=[KaV,(Kcl,1,100),Ka7],lens:=HY,hH:=KV } c (rF (.v 1) (.v 3)) Kp 0 [some 0,some 1,some 2,some 3] (rF (.v 1) KbR) Kp
theorem ajy:ael (bE Ak):=⟨_,rfl,by decide +kernel,by decide +kernel⟩
abbrev aiP (c:Code):Prop:=gN { vars:=WV,facts:=[KaV,(Kcl,0,0),([([5],-1),([6],1)],1,100),Ka7],lens:=HY,hH:=KV } c (rF (.v 1) (.v 3)) Kp 0 [some 0,some 1,some 2,some 3] (rF (.v 1) KbR) Kp
theorem alr:aiP (bE Ak):=⟨_,rfl,by decide +kernel,by decide +kernel⟩
abbrev aiN (c:Code):Prop:=gN { vars:=WV,facts:=[KaV,(Kcl,0,0),([([5],-1),([6],1)],0,0),Ka7],lens:=HY,hH:=KV } c (rF (.v 1) (.v 3)) Kp 0 [some 0,some 1,some 2,some 3] (rF (.v 1) KbR) [JH,(.sc 76 8 0 [] [] [([0],1)]),(.sc 137 9 7 [([([3],1)],[.v 4,.o 3,.o 4,.o 5,.o 6,.i 0,.i 0,.v 5,Kcm])] [] [([2],1)]),Ux]
theorem alp:aiN (bE Ak):=⟨_,rfl,by decide +kernel,by decide +kernel⟩
abbrev aiO (c:Code):Prop:=gN { vars:=Kb8,lens:=HY } c (rF (.v 1) (.v 2)) Kp 3 [some 0,some 1,some 2,some 3] (rF (.v 1) (.v 2)) Kp
theorem alq:aiO (bE Ak):=⟨_,rfl,by decide +kernel,by decide +kernel⟩
abbrev aej (o:Option (RT Out)):Prop:=mI { vars:=Kb8,lens:=HY } Tryz.f38 o 1 (rF (.v 1) (.v 2)) Kp ((.bB [(.agg [.o 0,.o 1,.q 1 1,.q 1 2,.q 1 3,.q 8 0,.q 8 4,.q 9 7,.q 6 6,.o 2]),.i 0]))
theorem ajw:aej Ak:=⟨_,rfl,by decide +kernel,by decide +kernel,by kernel_rfl⟩
theorem walk (oA:Option (RT Out)) (rA:aiR body oA) (rF':aiQ (bE oA)) (rEl:aek (bE oA)) (rEg:ael (bE oA)) (rP:aiP (bE oA)) (rY:aiN (bE oA)) (rX:aiO (bE oA)) (rR:aej oA) {S:bL} {e:Int} {x y:EntC}
  (he:0≤e∧e<S.bG.length) (hn:S.bG.length≤4) (h1:1≤S.aM.length) (h40:S.aM.length≤40) (hat:S.bG[e.toNat]?=some ⟨⟨x.now,true,x.bM,x.eJ,x.aF,x.bD,x.down⟩,[y]⟩)
  (hyn:1≤y.now∧y.now≤12) (hs:∀g∈S.aM,(0≤g.aU∧g.aU<S.bG.length)∧1≤g.period∧g.period≤12∧(g.aU=e→g.period≤y.now)) :
  Ck 38 [S.av,.i e] (.bB [({ S.aZ (S.bG.set e.toNat ⟨y,[]⟩)with aM:=S.aM.map (jJ e y.now) }:bL).av,.i 0]):=by
 refine CK.gY Tryz.func38 (c:=body) (by kernel_rfl) (Fh.out) (yC.out) fun A w0 a0=>?_
 intro mm w a pr;rw[Tryz.ntmps38]at pr;refine rA.go (ev1 _ [(S.bG.length:Int),e,(S.aM.length:Int)] [.I S.aB,.I S.aD,.I S.done,.I x.now,.I y.now,.bool y.closed] (sT S [bU x.bM,aA x.eJ,bQ x.aF,aA x.bD,aA x.down,cN [y],bU y.bM,aA y.eJ,bQ y.aF,aA y.bD,aA y.down]) (.d (rfl) (.d (aE hat) .nil))) (xK kn) pr (fd:=rF (.i e) (.i 0)) (bd:=rB S ((aN S.bG).set e.toNat [.i y.now,.c (.bool y.closed),.lit 4 (bU y.bM),.lit 1 (aA y.eJ),.lit 11 (bQ y.aF),.lit 1 (aA y.bD),.lit 1 (aA y.down),.lit 8 []]) (cR S.aM)) ?_
 intro mm w a pr;have hE:(aN S.bG).set e.toNat [.i y.now,.c (.bool y.closed),.lit 4 (bU y.bM),.lit 1 (aA y.eJ),.lit 11 (bQ y.aF),.lit 1 (aA y.bD),.lit 1 (aA y.down),.lit 8 []]=aN (S.bG.set e.toNat ⟨y,[]⟩):=by simp[aN,List.map_set];rfl
 rw[hE]at pr;have hE2:(S.bG.set e.toNat ⟨y,[]⟩).length=S.bG.length:=by simp
 have hy:(S.bG.set e.toNat ⟨y,[]⟩)[e.toNat]?=some ⟨⟨y.now,y.closed,y.bM,y.eJ,y.aF,y.bD,y.down⟩,[]⟩:=by rw[List.getElem?_set_self (by omega)]
 show _
 generalize S.bG.set e.toNat ⟨y,[]⟩=E2 at *
 clear hE hat;refine fQ (fun n a w=>∃(j:Nat) (c:List pZ),n=S.aM.length-j∧j≤S.aM.length∧c=(S.aM.take j).map (jJ e y.now)++S.aM.drop j∧∃mm,@gZ dI dN A w0 a0 mm w a (rF (.i e) (.i (j:Int))) (eS (rB S (aN E2) (cR c)))) ?_ (n:=S.aM.length) ⟨0,S.aM,rfl,Nat.zero_le _,rfl,_,pr⟩
 rintro n a w ⟨j,c,rfl,hj,hc,mm,pr⟩
 have nP:c.length=S.aM.length:=by rw[hc];simp;omega
 rcases(by omega:j=S.aM.length∨j<S.aM.length)with rfl|hlt
 ·have hc:c=S.aM.map (jJ e y.now):=by rw[hc];simp
  rw[←hc];refine rX.go (ev1 _ [(S.bG.length:Int),e,(S.aM.length:Int)] [.I S.aB,.I S.aD,.I S.done] [aN E2,aA S.weights,aO S.methods,aO S.cP,gH S.aH,cR S.aM,gG S.bK,cR c] .nil) (xK kn) pr ?_
  intro mm w a pr;exact rR.go (ev1 _ [(S.bG.length:Int),e,(S.aM.length:Int)] [.I S.aB,.I S.aD,.I S.done] [aN E2,aA S.weights,aO S.methods,aO S.cP,gH S.aH,cR S.aM,gG S.bK,cR c] .nil) (xK kn) pr
 ·obtain⟨g,hg0⟩:∃g,S.aM[j]?=some g:=⟨_,List.getElem?_eq_getElem hlt⟩
  have hcj:c[j]?=some g:=by
   rw[hc,List.getElem?_append_right (by simp;omega)]
   simp only[List.length_map,List.length_take];rw[show j-min j S.aM.length=0 by omega,List.getElem?_drop,Nat.add_zero];exact hg0
  obtain⟨b1,b2,b3,b4⟩:=hs g (List.mem_of_getElem? hg0)
  have nx:∀g',g'=jJ e y.now g→c.set j g'=(S.aM.take (j+1)).map (jJ e y.now)++S.aM.drop (j+1):=by
   rintro g' rfl
   have hd:S.aM.drop j=g::S.aM.drop (j+1):=by rw[←List.getElem_cons_drop hlt];congr 1;exact Option.some.inj (by rw[←List.getElem?_eq_getElem hlt,hg0])
   rw[hc,hd,List.set_append_right _ _ (by simp;omega)]
   simp only[List.length_map,List.length_take];rw[show j-min j S.aM.length=0 by omega,List.set_cons_zero,List.take_add_one,hg0]
   simp
  have ns:c.set j g=c:=by
   apply List.ext_getElem?
   intro i;rw[List.getElem?_set];split
   ·rename_i hi
    subst hi;rw[if_pos (by omega),hcj]
   ·rfl
  have fin:∀g',g'=jJ e y.now g→∀mm w a,@gZ dI dN A w0 a0 mm w a (rF (.i e) (.i (1+(j:Int)))) (eS (rB S (aN E2) (cR (c.set j g'))))→∃n',n'<S.aM.length-j∧∃(j':Nat) (c':List pZ),n'=S.aM.length-j'∧j'≤S.aM.length∧c'=(S.aM.take j').map (jJ e y.now)++S.aM.drop j'∧∃mm,@gZ dI dN A w0 a0 mm w a (rF (.i e) (.i (j':Int))) (eS (rB S (aN E2) (cR c'))):=by
   intro g' hg' mm w a pr;rw[show(1+(j:Int))=((j+1:Nat):Int)by omega]at pr
   exact⟨_,by omega,j+1,c.set j g',rfl,by omega,nx g' hg',mm,pr⟩
  cases hw:g.waits with
  |false =>
   have hg:c[(j:Int).toNat]?=some ⟨g.aU,g.item,g.loc,g.eT,g.back,g.cost,g.dV,g.period,false⟩:=by rw[←hw];exact hcj
   refine rF'.go (ev1 _ [(S.bG.length:Int),e,(S.aM.length:Int),(j:Int),g.aU,g.period,y.now] [.I S.aB,.I S.aD,.I S.done,.I g.item,.I g.loc,.I g.eT,.I g.back,.I g.cost,.I g.dV,.bool y.closed] [aN E2,aA S.weights,aO S.methods,aO S.cP,gH S.aH,cR S.aM,gG S.bK,cR c,bU y.bM,aA y.eJ,bQ y.aF,aA y.bD,aA y.down] (.d (aV hg) (.d (aE hy) .nil))) (xK kn) pr (fd:=rF (.i e) (.i (1+(j:Int)))) (bd:=rB S (aN E2) (cR c)) ?_
   intro mm w a pr;rw[←ns]at pr;exact fin g (by simp[jJ,hw]) mm w a pr
  |true =>
   have hg:c[(j:Int).toNat]?=some ⟨g.aU,g.item,g.loc,g.eT,g.back,g.cost,g.dV,g.period,true⟩:=by rw[←hw];exact hcj
   rcases(by omega:g.aU<e∨e<g.aU∨g.aU=e)with h|h|h
   ·refine rEl.go (ev1 _ [(S.bG.length:Int),e,(S.aM.length:Int),(j:Int),g.aU,g.period,y.now] [.I S.aB,.I S.aD,.I S.done,.I g.item,.I g.loc,.I g.eT,.I g.back,.I g.cost,.I g.dV,.bool y.closed] [aN E2,aA S.weights,aO S.methods,aO S.cP,gH S.aH,cR S.aM,gG S.bK,cR c,bU y.bM,aA y.eJ,bQ y.aF,aA y.bD,aA y.down] (.d (aV hg) (.d (aE hy) .nil))) (xK kn) pr (fd:=rF (.i e) (.i (1+(j:Int)))) (bd:=rB S (aN E2) (cR c)) ?_
    intro mm w a pr;rw[←ns]at pr;exact fin g (by simp[jJ,hw];intro h';omega) mm w a pr
   ·refine rEg.go (ev1 _ [(S.bG.length:Int),e,(S.aM.length:Int),(j:Int),g.aU,g.period,y.now] [.I S.aB,.I S.aD,.I S.done,.I g.item,.I g.loc,.I g.eT,.I g.back,.I g.cost,.I g.dV,.bool y.closed] [aN E2,aA S.weights,aO S.methods,aO S.cP,gH S.aH,cR S.aM,gG S.bK,cR c,bU y.bM,aA y.eJ,bQ y.aF,aA y.bD,aA y.down] (.d (aV hg) (.d (aE hy) .nil))) (xK kn) pr (fd:=rF (.i e) (.i (1+(j:Int)))) (bd:=rB S (aN E2) (cR c)) ?_
    intro mm w a pr;rw[←ns]at pr;exact fin g (by simp[jJ,hw];intro h';omega) mm w a pr
   ·have:=b4 h
    rcases(by omega:g.period<y.now∨g.period=y.now)with h2|h2
    ·refine rP.go (ev1 _ [(S.bG.length:Int),e,(S.aM.length:Int),(j:Int),g.aU,g.period,y.now] [.I S.aB,.I S.aD,.I S.done,.I g.item,.I g.loc,.I g.eT,.I g.back,.I g.cost,.I g.dV,.bool y.closed] [aN E2,aA S.weights,aO S.methods,aO S.cP,gH S.aH,cR S.aM,gG S.bK,cR c,bU y.bM,aA y.eJ,bQ y.aF,aA y.bD,aA y.down] (.d (aV hg) (.d (aE hy) .nil))) (xK kn) pr (fd:=rF (.i e) (.i (1+(j:Int)))) (bd:=rB S (aN E2) (cR c)) ?_
     intro mm w a pr;rw[←ns]at pr;exact fin g (by simp[jJ,hw];intro h' h'';omega) mm w a pr
    ·refine rY.go (ev1 _ [(S.bG.length:Int),e,(S.aM.length:Int),(j:Int),g.aU,g.period,y.now] [.I S.aB,.I S.aD,.I S.done,.I g.item,.I g.loc,.I g.eT,.I g.back,.I g.cost,.I g.dV,.bool y.closed] [aN E2,aA S.weights,aO S.methods,aO S.cP,gH S.aH,cR S.aM,gG S.bK,cR c,bU y.bM,aA y.eJ,bQ y.aF,aA y.bD,aA y.down] (.d (aV hg) (.d (aE hy) .nil))) (xK kn) pr (fd:=rF (.i e) (.i (1+(j:Int)))) (bd:=rB S (aN E2) ((cR c).set j [.i g.aU,.i g.item,.i g.loc,.i g.eT,.i g.back,.i 0,.i 0,.i g.period,.c (.bool true)])) ?_
     intro mm w a pr;refine fin { g with cost:=0,dV:=0 } (by simp[jJ,hw,h,h2]) mm w a ?_
     rw[show cR (c.set j { g with cost:=0,dV:=0 })=(cR c).set j [.i g.aU,.i g.item,.i g.loc,.i g.eT,.i g.back,.i 0,.i 0,.i g.period,.c (.bool true)]by simp[cR,List.map_set,pZ.row,hw]]
     exact pr
end RO
def xM (S:bL) (e:Int):bL×Int :=
 if(S.aJ e).closed=false then(S,8)else
 match (S.aJ e).ahead with
 |[y]=>({ S.aZ (S.bG.set e.toNat ⟨y,[]⟩)with aM:=S.aM.map (jJ e y.now) },0)
 |_=>(S,0)
section
variable {S:bL} {e:Int}
theorem Pl (G:Gn S) (x:Ix S e 0):Ck 38 [S.av,.i e] (.bB [(xM S e).1.av,.i (xM S e).2]):=by
 have h:=G.toStOk;have E:=h.CJ x;have:=E.now;have he0:=x.e0;have he1:=x.e1;have:=h.hn
 have hat:=h.at_ x;have al:=G.al _ (List.mem_of_getElem? hat)
 have hpb:=G.pb;unfold xM;obtain⟨cl,nP⟩:∃cl,cl=(S.aJ e).closed:=⟨_,rfl⟩
 have hat:S.bG[e.toNat]?=some ⟨⟨(S.aJ e).now,cl,(S.aJ e).bM,(S.aJ e).eJ,(S.aJ e).aF,(S.aJ e).bD,(S.aJ e).down⟩,(S.aJ e).ahead⟩:=by rw[nP];exact hat
 rw[←nP];unfold amp dR.sh at al;rw[←nP]at al;cases cl with
 |false=>rw[if_pos rfl];exact cw _ (ev1 { vars:=KcD,facts:=[([([0],-1),([1],1)],1,4)],lens:=Kcz,hH:=[(0,[([0],1)],[.o 3,Kcd,.q 4 7,.q 1 8,.q 11 9,.q 1 10,.q 1 11,.q 8 12])] } [e,(S.bG.length:Int)] [.I S.aB,.I S.aD,.I S.done,.I (S.aJ e).now] (sT S [bU (S.aJ e).bM,aA (S.aJ e).eJ,bQ (S.aJ e).aF,aA (S.aJ e).bD,aA (S.aJ e).down,cN (S.aJ e).ahead]) (.d (aE hat) .nil)) KaB (.bB [Kb1,.i 8]) kn
 |true =>
  rw[if_neg (by simp)]
  obtain⟨y,hy⟩:∃y,(S.aJ e).ahead=[y]:=List.length_eq_one_iff.1 (by simpa using al.1)
  have yn:=(al.2 y (by rw[hy];simp)).1
  dsimp only at yn
  rw[hy]at hat ⊢;dsimp only
  by_cases h0:S.aM.length=0
  ·have hs:S.aM=[]:=List.length_eq_zero_iff.1 h0
   have hav:({ S.aZ (S.bG.set e.toNat ⟨y,[]⟩)with aM:=S.aM.map (jJ e y.now) }:bL).av=.agg [.i S.aB,.i S.aD,.lit 1 (aA S.weights),.lit 1 (aO S.methods),.lit 1 (aO S.cP),.lit 8 ((aN S.bG).set e.toNat [.i y.now,.c (.bool y.closed),.lit 4 (bU y.bM),.lit 1 (aA y.eJ),.lit 11 (bQ y.aF),.lit 1 (aA y.bD),.lit 1 (aA y.down),.lit 8 []]),.lit 8 (gH S.aH),.lit 9 (cR S.aM),.lit 6 (gG S.bK),.i S.done]:=by
    rw[hs,show(aN S.bG).set e.toNat [.i y.now,.c (.bool y.closed),.lit 4 (bU y.bM),.lit 1 (aA y.eJ),.lit 11 (bQ y.aF),.lit 1 (aA y.bD),.lit 1 (aA y.down),.lit 8 []]=aN (S.bG.set e.toNat ⟨y,[]⟩)by simp[aN,List.map_set];rfl];rfl
   rw[hav];obtain⟨X,hX⟩:∃X:EntC,X=(S.aJ e).toEntC:=⟨_,rfl⟩
   exact cw _ (ev1 { vars:=KcD,facts:=[([([0],-1),([1],1)],1,4)],lens:=[(0,[([1],1)]),(5,[]),(12,[([],1)])],hH:=[(0,[([0],1)],Ur),(12,[],UZ)] } [e,(S.bG.length:Int)] [.I S.aB,.I S.aD,.I S.done,.I (S.aJ e).now,.I y.now,.bool y.closed] (sT S [bU (S.aJ e).bM,aA (S.aJ e).eJ,bQ (S.aJ e).aF,aA (S.aJ e).bD,aA (S.aJ e).down,cN [y],bU y.bM,aA y.eJ,bQ y.aF,aA y.bD,aA y.down]) (.d (aE hat) (.d (rfl) .nil))) KaB (.bB [(sN (.seq 8 0 [([([0],1)],UZ)] []) (.o 2)),.i 0]) kn
  ·refine RO.walk RO.Ak RO.alu RO.als RO.ajx RO.ajy RO.alr RO.alp RO.alq RO.ajw (x:=(S.aJ e).toEntC) (y:=y) ⟨he0,he1⟩ h.hn (by omega) G.MY hat (by rw[yn];exact E.now) ?_
   intro g hg;obtain⟨b1,b2,b3,b4,b5,b6,b7,b8⟩:=G.Mf g hg;exact⟨b1,b8.1,b8.2,fun hge=>by rw[yn,←hge];exact hpb g hg⟩
end
end
section
open Mc
theorem z58:pB 0:=⟨by simp,by simp⟩
def sS (l:List bF) (n:Int):List bF×bF:=if 0<n then((dJ l n).1,(dJ l n).2.1)else(l,.zero)
theorem N9 {l:List bF} {n:Int} (h:LR l):LR (sS l n).1∧(sS l n).1.length≤l.length∧(0≤(sS l n).2.v∧(sS l n).2.v≤288230376151711744)∧pB (sS l n).2.p:=by
 unfold sS;split
 ·exact⟨pI h,I3,RG h,aa4 h n⟩
 ·exact⟨h,Nat.le_refl _,⟨by simp[bF.zero],by simp[bF.zero]⟩,z58⟩
def oP (l:List bF) (d:rM):List bF×bF×bF×bF :=
 ((sS (sS (sS l d.a).1 d.b).1 d.c).1,(sS l d.a).2,(sS (sS l d.a).1 d.b).2,(sS (sS (sS l d.a).1 d.b).1 d.c).2)
theorem aaC {l:List bF} {d:rM} (h:LR l):LR (oP l d).1∧(oP l d).1.length≤l.length∧((0≤(oP l d).2.1.v∧(oP l d).2.1.v≤288230376151711744)∧pB (oP l d).2.1.p)∧(0≤(oP l d).2.2.1.v∧(oP l d).2.2.1.v≤288230376151711744)∧(0≤(oP l d).2.2.2.v∧(oP l d).2.2.2.v≤288230376151711744):=by
 obtain⟨a1,a2,a3,a4⟩:=N9 (n:=d.a) h
 obtain⟨b1,b2,b3,b4⟩:=N9 (n:=d.b) a1
 obtain⟨c1,c2,c3,c4⟩:=N9 (n:=d.c) b1
 exact⟨c1,by show(sS _ _).1.length≤_;omega,⟨a3,a4⟩,b3,c3⟩
def cK (S:bL) (e item loc:Int) (x:pZ):Bool:=x.waits&&decide (x.aU=e)&&decide (x.item=item)&&decide (x.loc=loc)&&decide (x.period=(S.aJ e).now)
def pZ.nil:pZ:=⟨0,0,0,0,0,0,0,0,false⟩
section
variable (P:pZ→Bool) (l:List pZ)
def E8:Nat→List Int
 |0=>[]
 |j+1=>E8 j++(if P (l.getD j .nil)then[(j:Int)]else[])
def MN:Nat→List Int
 |0=>[]
 |j+1=>MN j++(if P (l.getD j .nil)then[(l.getD j .nil).eT-(l.getD j .nil).back]else[])
def smN:Nat→Bool
 |0=>false
 |j+1=>smN j||(P (l.getD j .nil)&&decide ((l.getD j .nil).back<(l.getD j .nil).eT))
theorem Ps (j:Nat):(E8 P l j).length=(MN P l j).length:=by
 induction j with
 |zero=>rfl
 |succ j ih=>simp only[E8,MN,List.length_append,ih];split<;>rfl
theorem aae (j:Nat):(E8 P l j).length≤j:=by
 induction j with
 |zero=>simp[E8]
 |succ j ih=>simp only[E8,List.length_append];split<;>simp<;>omega
theorem af9 (j:Nat):∀k∈E8 P l j,0≤k∧k<j:=by
 induction j with
 |zero=>intro k hk;simp[E8]at hk
 |succ j ih =>
  intro k hk;simp only[E8,List.mem_append]at hk;rcases hk with hk|hk
  ·have:=ih k hk;omega
  ·split at hk
   ·simp at hk;omega
   ·simp at hk
theorem adm (j:Nat) (h:∀x∈l,0≤x.back∧x.back≤x.eT∧x.eT≤1073741824) (hj:j≤l.length):∀k∈MN P l j,0≤k∧k≤1073741824:=by
 induction j with
 |zero=>intro k hk;simp[MN]at hk
 |succ j ih =>
  intro k hk;simp only[MN,List.mem_append]at hk;rcases hk with hk|hk
  ·exact ih (by omega) k hk
  ·have:=h _ (eL (d:=.nil) (show j<l.length by omega))
   split at hk
   ·rw[List.mem_singleton]at hk;omega
   ·simp at hk
theorem PX (j:Nat) (h:smN P l j=true):∃k∈MN P l j,0<k:=by
 induction j with
 |zero=>cases h
 |succ j ih =>
  simp only[smN,Bool.or_eq_true,Bool.and_eq_true,decide_eq_true_eq]at h;rcases h with h|⟨h1,h2⟩
  ·obtain⟨k,hk,h0⟩:=ih h
   exact⟨k,by simp only[MN];exact List.mem_append_left _ hk,h0⟩
  ·exact⟨(l.getD j .nil).eT-(l.getD j .nil).back,by simp only[MN];rw[if_pos h1];simp,by omega⟩
end
def kZ (v:Int) (w:List Int):List Int×Int:=if 0≤v then eC v w else((eC (-v) w).1.map (fun x=>-x),(eC (-v) w).2)
theorem Tf (c:Int) (l:List Int) (h:∀x∈l,0≤x∧x≤c):kY l≤c*l.length:=by
 induction l with
 |nil=>simp[kY]
 |cons x r ih =>
  have:=ih fun y hy=>h y (by simp[hy])
  have:=h x (by simp)
  simp only[kY,List.length_cons,List.map_cons,List.sum_cons]at *
  rw[show c*((r.length+1:Nat):Int)=c*r.length+c by rw[Int.natCast_add,Int.mul_add];simp]
  omega
theorem uP {t:Int} {w:List Int} (ht:0≤t∧t≤288230376151711744) (hw:∀k∈w,0≤k∧k≤1073741824) (hl:w.length≤40) (hs:∃k∈w,0<k):(eC t w).2=0∧(eC t w).1.length=w.length∧∀x∈(eC t w).1,0≤x∧x≤t:=by
 have h2:(eC t w).2=0:=by
  unfold eC;have hb:pM t w=false:=by
   unfold pM;obtain⟨k,hk,h0⟩:=hs;have a1:iZ t=false:=by unfold iZ;simp;omega
   have a2:w.any iZ=false:=by
    rw[List.any_eq_false];intro x hx;have:=hw x hx
    unfold iZ;simp;omega
   have a3:w.any yL=true:=List.any_eq_true.2 ⟨k,hk,by unfold yL;simp;omega⟩
   rw[a1,a2,a3];rfl
  have he:eI w=0:=(PT (by have:=Tf 1073741824 w hw;omega)).1
  rw[if_neg (by rw[hb];simp),if_neg (by rw[he];simp)]
 rcases xJ (t:=t) (ws:=w)with⟨_,_,_,k1,k2,_⟩|⟨k1,_⟩
 ·exact⟨h2,k1,k2⟩
 ·omega
theorem rW {v:Int} {w:List Int} (hv:pB v) (hw:∀k∈w,0≤k∧k≤1073741824) (hl:w.length≤40) (hs:∃k∈w,0<k):(kZ v w).2=0∧(kZ v w).1.length=w.length∧∀x∈(kZ v w).1,pB x:=by
 unfold pB at *
 unfold kZ;split
 ·obtain⟨a,b,c⟩:=uP (t:=v) ⟨by omega,by omega⟩ hw hl hs
  exact⟨a,b,fun x hx=>by have:=c x hx;omega⟩
 ·obtain⟨a,b,c⟩:=uP (t:=-v) ⟨by omega,by omega⟩ hw hl hs
  refine⟨a,by simpa using b,fun x hx=>?_⟩
  obtain⟨y,hy,rfl⟩:=List.mem_map.1 hx;have:=c y hy
  omega
def sV (at' c p:List Int) (l:List pZ):Nat→List pZ
 |0=>l
 |j+1=>(sV at' c p l j).set (at'.getD j 0).toNat { (sV at' c p l j).getD (at'.getD j 0).toNat .nil with cost:=c.getD j 0,dV:=p.getD j 0 }
theorem Ay (at' c p:List Int) (l:List pZ) (j:Nat):(sV at' c p l j).length=l.length:=by
 induction j with
 |zero=>rfl
 |succ j ih=>simp only[sV,List.length_set,ih]
theorem Rp (at' c p:List Int) (l:List pZ) (Q:pZ→Prop) (h:∀x∈l,Q x) (hc:∀x∈c,pB x) (hp:∀x∈p,pB x) (hQ:∀x a b,Q x→pB a→pB b→Q { x with cost:=a,dV:=b }) (j:Nat) (hj:∀k∈at',0≤k∧k<l.length) (hja:j≤at'.length):∀x∈sV at' c p l j,Q x:=by
 induction j with
 |zero=>exact h
 |succ j ih =>
  have ih:=ih (by omega)
  intro x hx;simp only[sV]at hx;have hk:=hj _ (eL (d:=0) (show j<at'.length by omega))
  have b58:∀(z:List Int),(∀x∈z,pB x)→pB (z.getD j 0):=by
   intro z hz;by_cases hl:j<z.length
   ·exact hz _ (eL hl)
   ·rw[List.getD_eq_getElem?_getD,List.getElem?_eq_none (by omega)];exact z58
  rcases List.mem_or_eq_of_mem_set hx with hx|rfl
  ·exact ih x hx
  ·exact hQ _ _ _ (ih _ (eL (by rw[Ay];omega))) (b58 c hc) (b58 p hp)
def pL (S:bL) (e item loc:Int) (x:bF):bL :=
 if smN (cK S e item loc) S.aM S.aM.length=false then S else
 { S with aM:=sV (E8 (cK S e item loc) S.aM S.aM.length) (kZ x.v (MN (cK S e item loc) S.aM S.aM.length)).1 (kZ x.p (MN (cK S e item loc) S.aM S.aM.length)).1 S.aM (E8 (cK S e item loc) S.aM S.aM.length).length }
def iG (S:bL) (e item loc:Int):bL×Int :=
 if((S.aJ e).bS (2*item+loc)).p0+((S.aJ e).bS (2*item+loc)).p1+((S.aJ e).bS (2*item+loc)).p2=0 then(S,0)else
 match oP ((S.aJ e).bS (2*item+loc)).bH ((S.aJ e).bS (2*item+loc)).pn with
 |(l,⟨xq,xv,xp⟩,⟨yq,yv,yp⟩,⟨zq,zv,zp⟩) =>
 match dH (S.bT e ((S.aJ e).dG (2*item+loc) ⟨l,0,0,0⟩)) e [⟨5,xv⟩,⟨7,yv⟩,⟨8,zv⟩,⟨0,-xv⟩,⟨0,-yv⟩,⟨0,-zv⟩]with
 |(S1,f)=>if f≠0 then(S,f)else
 match eO S1 e item [0,0,0,0,0,xv,0,0,yv,zv,0]with
 |(S2,f)=>if f≠0 then(S,f)else(pL S2 e item loc ⟨xq,xv,xp⟩,0)
structure Sv (S T:bL):Prop where
 gn:Gn T
 sh:T.bG.map dR.sh=S.bG.map dR.sh
 le:T.bG.length=S.bG.length
 wt:T.weights=S.weights
 pe:T.aD=S.aD
 en:T.aB=S.aB
 me:T.methods=S.methods
 co:T.cP=S.cP
 dn:T.done=S.done
 rc:T.aH=S.aH
 tr:T.bK=S.bK
theorem Sv.refl {S:bL} (G:Gn S):Sv S S:=⟨G,rfl,rfl,rfl,rfl,rfl,rfl,rfl,rfl,rfl,rfl⟩
theorem Sv.trans {S T U:bL} (h:Sv S T) (g:Sv T U):Sv S U:=⟨g.gn,g.sh.trans h.sh,g.le.trans h.le,g.wt.trans h.wt,g.pe.trans h.pe,g.en.trans h.en,g.me.trans h.me,g.co.trans h.co,g.dn.trans h.dn,g.rc.trans h.rc,g.tr.trans h.tr⟩
theorem Kn.sv {S T:bL} (k:Kn S T) (G:Gn S):Sv S T:=by
 have e:=k.eq;exact⟨k.gn G,k.sh,k.len,by rw[e];rfl,by rw[e];rfl,by rw[e];rfl,by rw[e];rfl,by rw[e];rfl,by rw[e];rfl,by rw[e];rfl,by rw[e];rfl⟩
theorem Sv.ix {S T:bL} (h:Sv S T) {e item:Int} (x:Ix S e item):Ix T e item:=⟨x.e0,by rw[h.le];exact x.e1,x.i0,by rw[h.wt];exact x.i1⟩
theorem Sv.shE {S T:bL} (h:Sv S T) (e:Int):(T.aJ e).sh=(S.aJ e).sh:=by
 unfold bL.aJ;rw[FW,FW,h.sh]
theorem Sv.now {S T:bL} (h:Sv S T) (e:Int):(T.aJ e).now=(S.aJ e).now:=congrArg Prod.fst (h.shE e)
theorem Sv.cG {S T:bL} (h:Sv S T) (e i:Int):T.cG e i=S.cG e i:=by unfold bL.cG;rw[h.me]
theorem acX {S:bL} (G:Gn S) {e item loc:Int} {x:bF} (hx:(0≤x.v∧x.v≤288230376151711744)∧pB x.p):Sv S (pL S e item loc x):=by
 unfold pL;split
 ·exact .refl G
 ·rename_i hs
  have hs:smN (cK S e item loc) S.aM S.aM.length=true:=by simpa using hs
  have hsal:=G.MY;have hw:=adm (cK S e item loc) S.aM S.aM.length (fun x hx=>by obtain⟨_,_,_,b4,b5,_⟩:=G.Mf x hx;omega) (Nat.le_refl _)
  have hl:=aae (cK S e item loc) S.aM S.aM.length
  have hll:=Ps (cK S e item loc) S.aM S.aM.length
  have hin:=af9 (cK S e item loc) S.aM S.aM.length
  have hso:=PX _ _ _ hs;obtain⟨-,-,c1⟩:=rW (v:=x.v) ⟨by omega,by omega⟩ hw (by omega) hso
  obtain⟨-,-,p1⟩:=rW (v:=x.p) hx.2 hw (by omega) hso
  generalize E8 (cK S e item loc) S.aM S.aM.length=A at *
  generalize MN (cK S e item loc) S.aM S.aM.length=W at *
  have h:=G.toStOk;refine⟨⟨⟨h.hn,h.hw,h.Fq,h.Aa,h.Fs,h.nP,h.mb,h.cb,h.aJ,h.ahead⟩,G.IM,by show(sV _ _ _ _ _).length≤40;rw[Ay];exact G.MY,G.TF,G.FM,?_,G.trb,G.d0,G.al,?_⟩,rfl,rfl,rfl,rfl,rfl,rfl,rfl,rfl,rfl,rfl⟩
  ·exact Rp A _ _ _ (aan S.bG.length S.weights.length) G.Mf c1 p1 (fun x a b hx ha hb=>by obtain⟨b1,b2,b3,b4,b5,b6,b7,b8⟩:=hx;exact⟨b1,b2,b3,b4,b5,ha,hb,b8⟩) _ hin (Nat.le_refl _)
  ·exact Rp A _ _ _ (fun x=>x.period≤(S.aJ x.aU).now) G.pb c1 p1 (fun x a b hx ha hb=>hx) _ hin (Nat.le_refl _)
theorem CX {S:bL} (G:Gn S) {e item loc:Int} (x:Ix S e item) (l0:0≤loc) (l1:loc≤1) (hm:S.cG e item=3):Sv S (iG S e item loc).1∧fF (iG S e item loc).2∧((iG S e item loc).2≠0→(iG S e item loc).1=S):=by
 have h:=G.toStOk;have hp:=h.Rv x l0 l1;obtain⟨a1,a2,a3,a4,a5⟩:=aaC (d:=((S.aJ e).bS (2*item+loc)).pn) hp.lr
 unfold iG;split
 ·exact⟨.refl G,⟨by simp,by simp⟩,fun h=>absurd rfl h⟩
 ·generalize oP ((S.aJ e).bS (2*item+loc)).bH ((S.aJ e).bS (2*item+loc)).pn=r at *
  obtain⟨l,⟨xq,xv,xp⟩,⟨yq,yv,yp⟩,⟨zq,zv,zp⟩⟩:=r
  dsimp only at *
  have q0:=gW a1.ok;have hone:l.length≤1:=by rcases hp.one with h1|h1<;>omega
  have K0:=nK h x l0 l1 (p:=⟨l,0,0,0⟩) ⟨a1,.inr hone,by show(0:Int)≤0;omega,by show(0:Int)≤0;omega,by show(0:Int)≤0;omega,by show(0:Int)+0+0≤qs l;omega,.inl hm⟩
  generalize S.bT e ((S.aJ e).dG (2*item+loc) ⟨l,0,0,0⟩)=S0 at *
  obtain⟨K1,e1,-⟩:=dY K0.ok (K0.ix x) [⟨5,xv⟩,⟨7,yv⟩,⟨8,zv⟩,⟨0,-xv⟩,⟨0,-yv⟩,⟨0,-zv⟩]
  generalize dH S0 e [⟨5,xv⟩,⟨7,yv⟩,⟨8,zv⟩,⟨0,-xv⟩,⟨0,-yv⟩,⟨0,-zv⟩]=r at *
  obtain⟨S1,f1⟩:=r;dsimp only at *
  split
  ·exact⟨.refl G,e1,fun _=>rfl⟩
  ·have K2:=K0.trans K1
   obtain⟨K3,e3,-⟩:=fJ K2.ok (K2.ix x) (r:=[0,0,0,0,0,xv,0,0,yv,zv,0]) rfl
   generalize eO S1 e item [0,0,0,0,0,xv,0,0,yv,zv,0]=r at *
   obtain⟨S2,f2⟩:=r;dsimp only at *
   split
   ·exact⟨.refl G,e3,fun _=>rfl⟩
   ·have K4:=(K2.trans K3).sv G
    exact⟨K4.trans (acX K4.gn a3),⟨by simp,by simp⟩,fun h=>absurd rfl h⟩
def jR (S:bL) (e item:Int):bL×Int :=
 match iG S e item 0 with
 |(T,f)=>if f≠0 then(S,f)else match iG T e item 1 with
 |(U,f)=>if f≠0 then(S,f)else(U,0)
def kH (e:Int):Nat→Nat→bL→bL×Int
 |0,_,T=>(T,0)
 |n+1,j,T=>if T.cG e (j:Int)=3 then(match jR T e (j:Int)with|(U,f)=>if f≠0 then(T,f)else kH e n (j+1) U)else kH e n (j+1) T
theorem TQ {S:bL} (G:Gn S) {e item:Int} (x:Ix S e item) (hm:S.cG e item=3):Sv S (jR S e item).1∧fF (jR S e item).2:=by
 obtain⟨k1,e1,-⟩:=CX G x (loc:=0) (by omega) (by omega) hm
 unfold jR;generalize iG S e item 0=r at *;obtain⟨T,f⟩:=r;dsimp only at *
 split
 ·exact⟨.refl G,e1⟩
 ·obtain⟨k2,e2,-⟩:=CX k1.gn (k1.ix x) (loc:=1) (by omega) (by omega) (by rw[k1.cG];exact hm)
  generalize iG T e item 1=r at *;obtain⟨U,f⟩:=r;dsimp only at *
  split
  ·exact⟨.refl G,e2⟩
  ·exact⟨k1.trans k2,⟨by simp,by simp⟩⟩
def tS (v q p:Int):Int:=if v<0∨q<0∨p<0 then 0 else if v≤q*p then 0 else v-q*p
theorem agw (v q p:Int) (hv:v≤288230376151711744):0≤tS v q p∧tS v q p≤288230376151711744:=by
 unfold tS;split
 ·omega
 ·rename_i h
  have hm:0≤q*p:=Int.mul_nonneg (by omega) (by omega)
  split<;>omega
def bL.wJ (S:bL) (e:Int) (i:Nat):Int:=(S.aJ e).bD.getD i 0
def bL.down (S:bL) (e:Int) (i:Nat):Int:=(S.aJ e).down.getD i 0
def TH (S:bL) (e:Int) (i:Nat):Int:=tS (cE S e (i:Int)).1.v (cE S e (i:Int)).1.q (S.wJ e i)
def nN (S:bL) (e:Int):Nat→List dO
 |0=>[]
 |j+1=>nN S e j++(if 0≤S.wJ e j then[⟨10,TH S e j-S.down e j⟩,⟨11,-(TH S e j-S.down e j)⟩]else[])
def mZ (S:bL) (e:Int):Nat→List Int
 |0=>(S.aJ e).down
 |j+1=>if 0≤S.wJ e j then(mZ S e j).set j (TH S e j)else mZ S e j
theorem FH (l:List Int):pB (dU l):=⟨(N4 l).1,(N4 l).2⟩
theorem NY (S:bL) (e:Int) (i:Nat):0≤TH S e i∧TH S e i≤288230376151711744:=agw _ _ _ (FH _).2
theorem AL (S:bL) (e:Int) (n:Nat):(mZ S e n).length=(S.aJ e).down.length:=by
 induction n with
 |zero=>rfl
 |succ j ih=>simp only[mZ];split<;>simp[ih]
theorem aa9 {S:bL} {e:Int} (h:∀v∈(S.aJ e).down,0≤v∧v≤M58) (n:Nat):∀v∈mZ S e n,0≤v∧v≤M58:=by
 induction n with
 |zero=>exact h
 |succ j ih =>
  intro v hv;simp only[mZ]at hv;split at hv
  ·rcases List.mem_or_eq_of_mem_set hv with hv|rfl
   ·exact ih v hv
   ·exact NY S e j
  ·exact ih v hv
theorem ae7 (S:bL) (e:Int) (n:Nat):(mZ S e n).getD n 0=S.down e n:=by
 have go:∀(k:Nat),k≤n→(mZ S e k).getD n 0=S.down e n:=by
  intro k;induction k with
  |zero=>intro _;rfl
  |succ j ih =>
   intro hk;simp only[mZ];split
   ·rw[List.getD_eq_getElem?_getD,List.getElem?_set,if_neg (by omega),←List.getD_eq_getElem?_getD];exact ih (by omega)
   ·exact ih (by omega)
 exact go n (Nat.le_refl _)
theorem RX (S:bL) (e:Int) (n:Nat):(nN S e n).length≤2*n:=by
 induction n with
 |zero=>simp[nN]
 |succ j ih=>simp only[nN,List.length_append];split<;>simp<;>omega
theorem ahw {S:bL} {e:Int} (h:∀v∈(S.aJ e).down,0≤v∧v≤M58) (n:Nat):∀x∈nN S e n,(0≤x.a∧x.a≤100)∧(-4611686018427387904≤x.n∧x.n≤4611686018427387904):=by
 induction n with
 |zero=>intro x hx;simp[nN]at hx
 |succ j ih =>
  intro x hx;simp only[nN,List.mem_append]at hx;rcases hx with hx|hx
  ·exact ih x hx
  ·have b1:=NY S e j
   have b2:0≤S.down e j∧S.down e j≤288230376151711744:=by
    unfold bL.down;by_cases hl:j<(S.aJ e).down.length
    ·exact h _ (eL hl)
    ·rw[List.getD_eq_getElem?_getD,List.getElem?_eq_none (by omega)];simp
   split at hx
   ·simp only[List.mem_cons,List.not_mem_nil,or_false]at hx
    rcases hx with rfl|rfl
    ·exact⟨by simp,by dsimp only;omega⟩
    ·exact⟨by simp,by dsimp only;omega⟩
   ·simp at hx
def dR.Ah (x:dR) (l:List Int):dR:={ x with down:=l }
def sE (S:bL) (e:Int):bL×Int :=
 match dH (S.bT e ((S.aJ e).Ah (mZ S e S.weights.length))) e (nN S e S.weights.length)with
 |(T,f)=>if f≠0 then(S,f)else(T,0)
theorem abu {S:bL} (h:StOk S) {e item:Int} (x:Ix S e item) {l:List Int} (hl:l.length=(S.aJ e).down.length) (hb:∀v∈l,0≤v∧v≤M58):Kn S (S.bT e ((S.aJ e).Ah l)):=by
 have E:=h.CJ x;exact⟨Kin.bT (h.bT x.e0 ⟨E.pl,E.ok,E.bl,E.bb,E.rl,E.rr,E.pr,E.prb,by show l.length=_;rw[hl];exact E.dl,hb,E.now⟩ (h.ahead _ (List.mem_of_getElem? (h.at_ x)) _ (h.at_ x))),nH x rfl⟩
theorem aba {S:bL} (G:Gn S) {e item:Int} (x:Ix S e item):Kn S (sE S e).1∧fF (sE S e).2:=by
 have h:=G.toStOk;have E:=h.CJ x;have K:=abu h x (AL S e S.weights.length) (aa9 E.db _)
 unfold sE;obtain⟨K1,e1,-⟩:=dY K.ok (K.ix x) (nN S e S.weights.length)
 generalize dH (S.bT e ((S.aJ e).Ah (mZ S e S.weights.length))) e (nN S e S.weights.length)=r at *
 obtain⟨T,f⟩:=r;dsimp only at *
 split
 ·exact⟨.refl h,e1⟩
 ·exact⟨K.trans K1,⟨by simp,by simp⟩⟩
theorem CY {e:Int}:∀(n j:Nat) (S:bL),Gn S→(0≤e∧e<S.bG.length)→n+j≤S.weights.length→Sv S (kH e n j S).1∧fF (kH e n j S).2
 |0,_,S,G,_,_=>⟨.refl G,by show fF 0;exact⟨by simp,by simp⟩⟩
 |n+1,j,S,G,he,hj=>by
  unfold kH;split
  ·rename_i hm
   obtain⟨k1,e1⟩:=TQ G (e:=e) (item:=(j:Int)) ⟨he.1,he.2,by omega,by omega⟩ hm
   generalize jR S e (j:Int)=r at *
   obtain⟨U,f⟩:=r;dsimp only at *
   split
   ·exact⟨.refl G,e1⟩
   ·obtain⟨k2,e2⟩:=CY n (j+1) U k1.gn ⟨he.1,by rw[k1.le];exact he.2⟩ (by rw[k1.wt];omega)
    exact⟨k1.trans k2,e2⟩
  ·exact CY n (j+1) S G he (by omega)
def dR.shut (x:dR) (y:EntC):dR:={ x with closed:=true,ahead:=[y] }
def oZ (S:bL) (e:Int):bL×Int :=
 if(S.aJ e).closed=true then(S,7)else
 match kH e S.weights.length 0 S with
 |(T,f)=>if f≠0 then(S,f)else
 match sE T e with
 |(U,f)=>if f≠0 then(S,f)else(U.bT e ((U.aJ e).shut (S.aJ e).toEntC),0)
theorem XX {S:bL} (G:Gn S) {e:Int} (x:Ix S e 0):mY S (oZ S e):=by
 have h:=G.toStOk;unfold oZ;split
 ·exact mY.bad G ⟨by simp,by simp⟩
 ·rename_i nP
  obtain⟨k1,e1⟩:=CY S.weights.length 0 S G ⟨x.e0,x.e1⟩ (by omega)
  generalize kH e S.weights.length 0 S=r at *;obtain⟨T,f⟩:=r;dsimp only at *
  split
  ·exact mY.bad G e1
  ·obtain⟨k2,e2⟩:=aba k1.gn (k1.ix x)
   generalize sE T e=r at *;obtain⟨U,f⟩:=r;dsimp only at *
   split
   ·exact mY.bad G e2
   ·have k3:=k1.trans (k2.sv k1.gn)
    clear k1 k2 e1 e2;have E:=k3.gn.toStOk.CJ (k3.ix x)
    have E0:=h.CJ x;have hs:=k3.gn.toStOk.bT (e:=e) (x:=(U.aJ e).shut (S.aJ e).toEntC) x.e0 ⟨E.pl,E.ok,E.bl,E.bb,E.rl,E.rr,E.pr,E.prb,E.dl,E.db,E.now⟩ (fun y hy=>by
     rw[show((U.aJ e).shut (S.aJ e).toEntC).ahead=[(S.aJ e).toEntC]from rfl,List.mem_singleton]at hy
     subst hy;rw[k3.wt,k3.me];exact E0)
    have hle:(U.bT e ((U.aJ e).shut (S.aJ e).toEntC)).bG.length=U.bG.length:=by simp[bL.bT]
    have Gu:=k3.gn;have hnow:=k3.now e;refine⟨⟨hs,Gu.IM,Gu.MY,Gu.TF,by rw[hle];exact Gu.FM,by rw[hle];exact Gu.Mf,by rw[hle];exact Gu.trb,Gu.d0,?_,?_⟩,⟨by simp,by simp⟩,fun h=>absurd rfl h,by rw[hle,k3.le],k3.wt,k3.pe,k3.en,k3.me,k3.dn⟩
    ·intro y hy
     rcases List.mem_or_eq_of_mem_set hy with hy|rfl
     ·exact Gu.al y hy
     ·refine⟨rfl,fun y hy=>?_⟩
      rw[show((U.aJ e).shut (S.aJ e).toEntC).sh.2.2=[(S.aJ e).toEntC]from rfl,List.mem_singleton]at hy
      subst hy;exact⟨hnow.symm,by simpa using nP⟩
    ·intro s hs
     have p:=Gu.pb s hs;have b:=(Gu.Mf s hs).1
     show s.period≤((U.bG.set e.toNat ((U.aJ e).shut (S.aJ e).toEntC)).getD s.aU.toNat dR.nil).now
     rw[List.getD_eq_getElem?_getD,List.getElem?_set];split
     ·rename_i he
      have e2:s.aU=e:=by have:=x.e0;omega
      rw[if_pos (by have:=x.e0;have:=x.e1;have:=k3.le;omega)]
      rw[e2]at p;exact p
     ·unfold bL.aJ at p
      rw[List.getD_eq_getElem?_getD]at p;exact p
end
section
open Mc
section
variable {S:bL} {e:Int}
theorem ahu (G:Gn S) (x:Ix S e 0) (hn:(S.aJ e).now<12):Gn (S.bT e (Li S e)):=by
 have h:=G.toStOk;have E:=h.CJ x;have hO:Md S.weights.length (S.methods.getD e.toNat []) (Li S e).toEntC:=by
  refine⟨E.pl,E.ok,E.bl,E.bb,by simp[Li],?_,E.pr,E.prb,E.dl,E.db,?_⟩
  ·intro r hr
   obtain⟨i,hi,rfl⟩:=List.mem_map.1 hr;refine⟨rfl,fun v hv=>?_⟩
   simp only[kN,List.mem_cons,List.not_mem_nil,or_false]at hv;have z:pB 0:=⟨by simp,by simp⟩
   rcases hv with rfl|rfl|rfl|rfl|rfl|rfl|rfl|rfl|rfl|rfl|rfl
   ·exact FH _
   all_goals exact z
  ·have:=E.now
   show 1≤1+(S.aJ e).now∧1+(S.aJ e).now≤12
   omega
 have hs:=h.bT x.e0 hO (fun y hy=>by cases hy)
 have hle:(S.bT e (Li S e)).bG.length=S.bG.length:=by simp[bL.bT]
 refine⟨hs,G.IM,G.MY,G.TF,by rw[hle];exact G.FM,by rw[hle];exact G.Mf,by rw[hle];exact G.trb,G.d0,?_,?_⟩
 ·intro y hy
  rcases List.mem_or_eq_of_mem_set hy with hy|rfl
  ·exact G.al y hy
  ·exact⟨rfl,fun y hy=>by cases hy⟩
 ·intro s hs
  have p:=G.pb s hs;have b:=(G.Mf s hs).1
  show s.period≤((S.bG.set e.toNat (Li S e)).getD s.aU.toNat dR.nil).now
  rw[List.getD_eq_getElem?_getD,List.getElem?_set];split
  ·rename_i he
   have e2:s.aU=e:=by have:=x.e0;omega
   rw[if_pos (by have:=x.e0;have:=x.e1;omega)]
   rw[e2]at p;show s.period≤1+(S.aJ e).now
   omega
  ·unfold bL.aJ at p
   rw[List.getD_eq_getElem?_getD]at p;exact p
theorem acd (G:Gn S) (x:Ix S e 0) {y:EntC} (hy:(S.aJ e).ahead=[y]):Gn { S.aZ (S.bG.set e.toNat ⟨y,[]⟩)with aM:=S.aM.map (jJ e y.now) }:=by
 have h:=G.toStOk;have hat:=h.at_ x;have hm:=List.mem_of_getElem? hat
 have hO:=h.ahead _ hm _ hat y (by rw[hy];simp)
 obtain⟨a1,a2⟩:=G.al _ hm;obtain⟨n1,n2⟩:=a2 y (by show y∈(S.aJ e).ahead;rw[hy];simp)
 have hs:=h.bT (x:=⟨y,[]⟩) x.e0 hO (fun y hy=>by cases hy)
 have hle:(S.bG.set e.toNat ⟨y,[]⟩).length=S.bG.length:=by simp
 have zf:∀s:pZ,(jJ e y.now s).aU=s.aU∧(jJ e y.now s).item=s.item∧(jJ e y.now s).loc=s.loc∧(jJ e y.now s).eT=s.eT∧(jJ e y.now s).back=s.back∧(jJ e y.now s).period=s.period∧((jJ e y.now s).cost=s.cost∨(jJ e y.now s).cost=0)∧((jJ e y.now s).dV=s.dV∨(jJ e y.now s).dV=0):=by
  intro s;unfold jJ;split<;>simp
 refine⟨⟨hs.hn,hs.hw,hs.Fq,hs.Aa,hs.Fs,hs.nP,hs.mb,hs.cb,hs.aJ,hs.ahead⟩,G.IM,by show(S.aM.map _).length≤40;simp;exact G.MY,G.TF,by show ∀x∈_,adh (S.bG.set _ _).length _ x;rw[hle];exact G.FM,?_,by show ∀x∈_,adg (S.bG.set _ _).length _ x;rw[hle];exact G.trb,G.d0,?_,?_⟩
 ·show ∀x∈_,aan (S.bG.set _ _).length _ x
  rw[hle];intro s hs;obtain⟨s,hs',rfl⟩:=List.mem_map.1 hs;clear hs;have hs:=hs';obtain⟨b1,b2,b3,b4,b5,b6,b7,b8⟩:=G.Mf s hs;obtain⟨z1,z2,z3,z4,z5,z6,z7,z8⟩:=zf s;have z:pB 0:=⟨by simp,by simp⟩
  refine⟨by rw[z1];exact b1,by rw[z2];exact b2,by rw[z3];exact b3,by rw[z4];exact b4,by rw[z5,z4];exact b5,?_,?_,by rw[z6];exact b8⟩
  ·rcases z7 with z7|z7<;>rw[z7]
   ·exact b6
   ·exact z
  ·rcases z8 with z8|z8<;>rw[z8]
   ·exact b7
   ·exact z
 ·intro z hz
  rcases List.mem_or_eq_of_mem_set hz with hz|rfl
  ·exact G.al z hz
  ·refine⟨?_,fun y hy=>by cases hy⟩
   show(0:Nat)=if y.closed then 1 else 0
   rw[n2];rfl
 ·intro s hs
  obtain⟨s,hs',rfl⟩:=List.mem_map.1 hs;clear hs;have hs:=hs';obtain⟨z1,z2,z3,z4,z5,z6,z7,z8⟩:=zf s;have p:=G.pb s hs;have b:=(G.Mf s hs).1
  rw[z6,z1];show s.period≤((S.bG.set e.toNat ⟨y,[]⟩).getD s.aU.toNat dR.nil).now
  rw[List.getD_eq_getElem?_getD,List.getElem?_set];split
  ·rename_i he
   have e2:s.aU=e:=by have:=x.e0;omega
   rw[if_pos (by have:=x.e0;have:=x.e1;omega)]
   rw[e2]at p;show s.period≤y.now
   rw[n1];exact p
  ·unfold bL.aJ at p
   rw[List.getD_eq_getElem?_getD]at p;exact p
end
end
section
open Mc
theorem Rh (a:Option Addr) (cap:Nat) (ws:List Int) (t:Int) (w:World) (h:Row w 1 a ws.length cap ws) (hn:ws.length≤1000000) (ht:jY t) (hb:pM t ws=false) (he:eI ws=0) :
  Calls Tryz.prog 90 #[.int .i64 t,.slice a ws.length cap] w fun e w'=>∃g cap',e=.returned (.tuple #[.slice (some ⟨g,0,none⟩) ws.length cap',.int .i64 0])∧ws.length≤cap'∧cap'≤maxLen∧g<w'.heap.size∧w.heap.size≤g∧bJ w' g 0 (eC t ws).1∧(∀i,w'.frozen? ⟨g,i,none⟩=false)∧Below w.heap.size w w':=by
 have ho:=OE (key:=uZ (gU t (dU ws) ws)) (List.range ws.length)
 refine(M8 a cap ws (OG (uZ (gU t (dU ws) ws)) (List.range ws.length)) t w h hn ht (fun _ _=>ho)).mono ?_
 rintro e w' ⟨k,hB⟩
 rw[if_neg (by rw[hb];simp),if_neg (by rw[he];simp)]at k
 obtain⟨g,cap',rfl,k1,k2,k3,k4,k5,k6⟩:=k;refine⟨g,cap',rfl,k1,k2,k3,k4,?_,k6,hB⟩
 unfold eC;rw[if_neg (by rw[hb];simp),if_neg (by rw[he];simp)]
 exact k5
def MB (A:List Int) (k:Nat):List Int:=(A.take k).map (fun x=>-x)++A.drop k
theorem RU (A:List Int) (k:Nat) (h:k≤A.length):(MB A k).length=A.length:=by simp[MB];omega
theorem ae1 (A:List Int) (k:Nat) (h:k<A.length):(MB A k).getD k 0=A.getD k 0:=by
 unfold MB;rw[List.getD_eq_getElem?_getD,List.getD_eq_getElem?_getD,List.getElem?_append_right (by simp;omega)]
 simp only[List.length_map,List.length_take];rw[show k-min k A.length=0 by omega,List.getElem?_drop]
 rfl
theorem ae0 (A:List Int) (k:Nat) (h:k<A.length):(MB A k).set k (-(A.getD k 0))=MB A (k+1):=by
 unfold MB;have hx:A.getD k 0=A[k]:=by rw[List.getD_eq_getElem?_getD,List.getElem?_eq_getElem h];rfl
 rw[List.set_append_right _ _ (by simp;omega)]
 simp only[List.length_map,List.length_take];rw[show k-min k A.length=0 by omega,List.drop_eq_getElem_cons h,List.set_cons_zero,List.take_add_one,List.getElem?_eq_getElem h,hx]
 show(A.take k).map _++(-A[k]::A.drop (k+1))=(A.take k++[A[k]]).map _++_
 rw[List.map_append,List.append_assoc];rfl
set_option maxRecDepth 20000 in
set_option maxHeartbeats 1000000 in
theorem IL (a:Option Addr) (cap:Nat) (ws:List Int) (v:Int) (w:World) (h:Row w 1 a ws.length cap ws) (hn:ws.length≤1000) (hv:v<0) (hv2:-288230376151711744≤v) (hb:pM (-v) ws=false) (he:eI ws=0) :
  Calls Tryz.prog 181 #[.int .i64 v,.slice a ws.length cap] w fun e w'=>∃g cap',e=.returned (.tuple #[.slice (some ⟨g,0,none⟩) ws.length cap',.int .i64 0])∧ws.length≤cap'∧cap'≤maxLen∧g<w'.heap.size∧w.heap.size≤g∧bJ w' g 0 ((eC (-v) ws).1.map (fun x=>-x))∧Below w.heap.size w w':=by
 have hS:=Rh a cap ws (-v) w h (by omega) ⟨by omega,by omega⟩ hb he
 obtain⟨A,hA⟩:∃A,(eC (-v) ws).1=A:=⟨_,rfl⟩
 have hbd:A.length=ws.length∧∀x∈A,0≤x∧x≤288230376151711744:=by
  rcases xJ (t:=-v) (ws:=ws)with⟨_,_,_,k1,k2,_⟩|⟨k1,_⟩
  ·rw[hA]at k1 k2
   exact⟨k1,fun x hx=>by have:=k2 x hx;omega⟩
  ·exfalso
   unfold eC at k1;rw[if_neg (by rw[hb];simp),if_neg (by rw[he];simp)]at k1
   simp at k1
 rw[hA]at hS ⊢;obtain⟨n,hN⟩:∃n,ws.length=n:=⟨_,rfl⟩
 rw[hN]at hS hbd hn ⊢;have hwv:IntKind.i64.wrap (-v)=-v:=IntWalk.i64_in _ (by omega)
 have hbh:=Lib.hid hbd;have hSh:=Lib.hid hS;clear h hb he hA hN hbd hS;go_enter Tryz.func181,Tryz.ntmps181
 go_wp2_with (go_at_call 90;refine hSh.out.mono ?_;rintro e w1 ⟨g,cap',rfl,k1,k2,k3,k4,k5,k6,hB⟩;unfold maxLen at k2)
 go_loopw [8] (fun i wr=>∃k:Nat,k≤n∧i=.int .i64 (k:Int)∧bJ wr g 0 (MB A k)∧(∀i,wr.frozen? ⟨g,i,none⟩=false)∧g<wr.heap.size∧Below w.heap.size w wr) (fun i _=>n-(intOf i).toNat)
 case atStart=>exact⟨0,by omega,rfl,k5,k6,k3,hB⟩
 case round =>
  obtain⟨k,hk,rfl,c,fz,lt,hb⟩:=hrel;obtain⟨hl,hbd⟩:=hbh.out;by_cases hlt:k<n
  ·have hltI:(k:Int)<(n:Int):=by omega
   have hk0:(0:Int)≤(k:Int):=by omega
   have c0:=c k (by rw[RU _ _ (by omega)];omega)
   rw[Nat.zero_add,ae1 _ _ (by omega)]at c0
   have hput:=bJ.put c (j:=k) (by rw[RU _ _ (by omega)];omega) (-(A.getD k 0))
   rw[Nat.zero_add,ae0 _ _ (by omega)]at hput
   have hx:=hbd _ (eL (d:=0) (show k<A.length by omega))
   obtain⟨x,hxe⟩:∃x,A.getD k 0=x:=⟨_,rfl⟩
   rw[hxe]at c0 hput hx;have f0:=fz k;have w2:IntKind.i64.wrap (-x)=-x:=IntWalk.i64_in _ (by omega)
   have hfz:∀i,(wr.setCell ⟨g,k,none⟩ (.int .i64 (-x))).frozen? ⟨g,i,none⟩=false:=fun i=>by rw[World.frozen?_setCell];exact fz i
   have hbel:Below w.heap.size w (wr.setCell ⟨g,k,none⟩ (.int .i64 (-x))):=hb.setCell (p:=⟨g,k,none⟩) (by simp only;omega) _
   have hputh:=Lib.hid hput;have hfzh:=Lib.hid hfz;clear hl hbd hxe hput hfz hx c k5;go_wp2_with fail
   case' roundEnd =>
    refine⟨⟨k+1,by omega,by go_num,hputh.out,hfzh.out,by simpa[World.setCell]using lt,hbel⟩,?_⟩
    simp[intOf];omega
  ·obtain rfl:k=n:=by omega
   have hg:¬ (k:Int)<(k:Int):=by omega
   have e:MB A k=A.map (fun x=>-x):=by unfold MB;rw[List.take_of_length_le (by omega),List.drop_eq_nil_of_le (by omega),List.append_nil]
   rw[e]at c;have ch:=Lib.hid c;clear e hl hbd c k5;go_wp2_with fail
   go_ret2
   exact⟨g,cap',rfl,k1,by unfold maxLen;exact k2,lt,k4,ch.out,hb⟩
theorem Cj {v:Int} {ws:List Int} (hv:pB v) (hw:∀k∈ws,0≤k∧k≤1073741824) (hl:ws.length≤40) (hs:∃k∈ws,0<k):Ck 181 [.i v,.lit 1 (aA ws)] (.bB [.lit 1 (aA (kZ v ws).1),.i 0]):=by
 have hI:eH ws:=fun k hk=>by have:=hw k hk;exact⟨by omega,by omega⟩
 by_cases h0:0≤v
 ·have hS:=E6 (t:=v) (ws:=ws) ⟨by omega,by omega⟩ hI (by omega)
  obtain⟨g1,g2,g3⟩:=uP (t:=v) (w:=ws) ⟨h0,hv.2⟩ hw hl hs
  rw[g1]at hS;have e:(kZ v ws).1=(eC v ws).1:=by unfold kZ;rw[if_pos h0]
  rw[e];generalize (eC v ws).1=C at *
  have hv2:=hv.2;exact cw _ (ev1 { vars:=[(0,288230376151711744)],bN:=[(90,[.v 0,.q 1 0],(.bB [.q 1 1,.i 0]))] } [v] [] [aA ws,aA C] .nil) [.v 0,.q 1 0] (.bB [.q 1 1,.i 0]) (kc hS kn)
 ·obtain⟨g0,g1,g2⟩:pM (-v) ws=false∧eI ws=0∧(eC (-v) ws).1.length=ws.length:=by
   have hv1:=hv.1;obtain⟨q1,q2,q3⟩:=uP (t:=-v) (w:=ws) ⟨by omega,by omega⟩ hw hl hs
   refine⟨?_,(PT (by have:=Tf 1073741824 ws hw;omega)).1,q2⟩
   cases hb:pM (-v) ws with
   |false=>rfl
   |true=>unfold eC at q1;rw[if_pos hb]at q1;cases q1
  have e:(kZ v ws).1=(eC (-v) ws).1.map (fun x=>-x):=by unfold kZ;rw[if_neg h0]
  rw[e];refine⟨aX (.c _) (aX (gJ _).lit eR),.bB _ (aX (gJ _).lit (aX (.c _) eR)),?_⟩
  intro A w vs hA hG hl' hv';have hvs:=Ii hl';have h0':=hv' 0 _ rfl;generalize vs.getD 0 Go.undef=v0 at *;have h1:=hv' 1 _ rfl;generalize vs.getD 1 Go.undef=v1 at *;subst hvs;cases h0';obtain⟨a,cap,rfl,R⟩:=OZ h1 hI;refine(IL a cap ws v w R (by omega) (by omega) hv.1 g0 g1).mono ?_
  rintro e w' ⟨g,cap',rfl,k1,k2,k3,k4,k5,hb⟩
  refine⟨_,rfl,mN ?_ qH,hb⟩
  have hlen:((eC (-v) ws).1.map (fun x=>-x)).length=ws.length:=by rw[List.length_map];exact g2
  generalize (eC (-v) ws).1.map (fun x=>-x)=B at *
  rw[←hlen]at k1 ⊢;exact Sj hA k1 k2 (.inr ⟨g,0,rfl,k4,k3,k5⟩)
def ai9 (b:Bk) (fi:List AV) (bi:List Mc.bX) (i:Nat) (ids:lP) (fo:List AV) (bo:List Mc.bX):Bool :=
 (fi.all (sI b bi.length)&&bi.all (bI b bi.length))&&match fi[i]? with
 |some x=>(match rK (eS bi) 16 x with
  |some (y,js)=>yS (tW ids) (fi.set i y) fo&&SX ids (dW (eS bi) (js.map fun id=>(id,bX.dead))) ids bo&&ndC ids&&(fo.all (sO bo.length)&&bo.all (bO bo.length))
  |none=>false)
 |none=>false
def ago (b:Bk) (fi:List AV) (bi:List Mc.bX) (i:Nat) (ids:lP) (fo:List AV) (bo:List Mc.bX):Prop:=ai9 b fi bi i ids fo bo=true
section
variable {b:Bk} {ev:@Ev b} {A:Nat→Prop} {w0:World} {a0:Act} {mm:Nat→St} {w:World} {a:Act} {fi fo fc fd:List AV} {bi bo bc bd:List Mc.bX} {ids:lP} {i:Nat}
theorem gZ.Sb [Bk] [Ev] {m:Nat→St} {f:List AV} {h:AH} (pr:gZ A w0 a0 m w a f h) {x y:AV} {js:List Nat} (hi:f[i]?=some x) (hz:rK h 16 x=some (y,js)) :
  gZ A w0 a0 (lE m js) w a (f.set i y) (dW h (js.map fun id=>(id,bX.dead))):=by
 obtain⟨E,H,F,N⟩:=pr;obtain⟨H2,E2⟩:=H.Sb js;refine⟨E.trans E2,H2,?_,N⟩
 have F2:=F.ext E2;refine⟨by rw[List.length_set];exact F2.size,?_,F2.defers⟩
 intro k z hk;rw[List.getElem?_set]at hk;split at hk
 ·rename_i he
  subst he;split at hk
  ·cases hk
   exact .pure _ _ (zP H js hz (fun id h=>h) (F.rd _ _ hi))
  ·cases hk
 ·exact F2.rd k z hk
theorem ago.go (s:ago b fi bi i ids fo bo) (ev:@Ev b) (pr:@gZ dI dN A w0 a0 mm w a fc (eS bc))
  (ef:fi.map (@iN b ev)=fc:=by rfl) (eb:bi.map (@qP b ev)=bc:=by rfl) (eg:fo.map (@iN b ev)=fd:=by rfl) (eh:bo.map (@qP b ev)=bd:=by rfl) (hg:b.jF=[]:=by rfl):∃mm,@gZ dI dN A w0 a0 mm w a fd (eS bd):=by
 unfold ago ai9 at s;rw[Bool.and_eq_true]at s;obtain⟨s1,s2⟩:=s;obtain⟨m1,pr⟩:=rZ b ev pr ef eb s1 hg;split at s2
 ·rename_i x hx
  split at s2
  ·rename_i y js hz
   simp only[Bool.and_eq_true]at s2;have pr2:=@gZ.Sb A w0 a0 w a i b ev m1 fi (eS bi) pr x y js hx hz
   obtain⟨m2,pr3⟩:=Rq b ev (gZ.to (ids:=ids) pr2 (tV s2.1.1.1) (LQ pr2.rel.PD s2.1.1.2) (ae2 s2.1.2) hg) (by rw[Bool.and_eq_true];exact s2.2)
   rw[eg,eh]at pr3;exact⟨m2,pr3⟩
  ·cases s2
 ·cases s2
end
end
section
open Mc
set_option maxRecDepth 1000000
section
variable {S:bL} {e item loc:Int}
theorem SL (G:Gn S) (X:Ix S e item) (l0:-2≤loc) (l1:loc≤3) {g:pZ} (hg:g∈S.aM):Ck 180 [S.av,.agg g.row,.i e,.i item,.i loc] (.c (.bool (cK S e item loc g))):=by
 have h:=G.toStOk;have E:=h.CJ X;have:=h.hn;have:=h.hw;have:=X.e0;have:=X.e1;have:=X.i0;have:=X.i1
 obtain⟨b1,b2,b3,b4,b5,b6,b7,b8⟩:=G.Mf g hg;have hat:=h.at_ X;obtain⟨x,hx⟩:∃x,x=S.aJ e:=⟨_,rfl⟩
 have hat:S.bG[e.toNat]?=some ⟨⟨x.now,x.closed,x.bM,x.eJ,x.aF,x.bD,x.down⟩,x.ahead⟩:=by rw[hx];exact hat
 have xn:=E.now;rw[←hx]at xn;have fin:∀b,cK S e item loc g=b→Ck 180 [S.av,.agg g.row,.i e,.i item,.i loc] (.c (.bool b))→Ck 180 [S.av,.agg g.row,.i e,.i item,.i loc] (.c (.bool (cK S e item loc g))):=fun b hb h=>by rw[hb];exact h
 unfold cK at fin ⊢;rw[←hx]at fin ⊢;obtain⟨ge,gi,gl,gq,gb,gc,gp,gd,gw⟩:=g;dsimp only at *
 cases gw with
 |false=>exact fin false rfl (cw _ (ev1 { vars:=Vh,facts:=KaJ,lens:=Kcw,hH:=Uf } [(S.bG.length:Int),e,item,loc,x.now,ge,gi,gl,gd] [.I S.aB,.I S.aD,.I S.done,.I x.now,.bool x.closed,.I gq,.I gb,.I gc,.I gp] (sT S [bU x.bM,aA x.eJ,bQ x.aF,aA x.bD,aA x.down,cN x.ahead]) (.d (aE hat) .nil)) [Kb1,(.agg [.v 5,.v 6,.v 7,.o 5,.o 6,.o 7,.o 8,.v 8,Kcd]),.v 1,.v 2,.v 3] Kcd kn)
 |true =>
  rcases(by omega:ge<e∨e<ge∨ge=e)with h1|h1|h1
  ·exact fin false (by simp;omega) (cw _ (ev1 { vars:=Vh,facts:=[Ka7,([([1],-1),([5],1)],-200,-1)],lens:=Kcw,hH:=Uf } [(S.bG.length:Int),e,item,loc,x.now,ge,gi,gl,gd] [.I S.aB,.I S.aD,.I S.done,.I x.now,.bool x.closed,.I gq,.I gb,.I gc,.I gp] (sT S [bU x.bM,aA x.eJ,bQ x.aF,aA x.bD,aA x.down,cN x.ahead]) (.d (aE hat) .nil)) Qp Kcd kn)
  ·exact fin false (by simp;omega) (cw _ (ev1 { vars:=Vh,facts:=[Ka7,([([1],-1),([5],1)],1,200)],lens:=Kcw,hH:=Uf } [(S.bG.length:Int),e,item,loc,x.now,ge,gi,gl,gd] [.I S.aB,.I S.aD,.I S.done,.I x.now,.bool x.closed,.I gq,.I gb,.I gc,.I gp] (sT S [bU x.bM,aA x.eJ,bQ x.aF,aA x.bD,aA x.down,cN x.ahead]) (.d (aE hat) .nil)) Qp Kcd kn)
  rcases(by omega:gi<item∨item<gi∨gi=item)with h2|h2|h2
  ·exact fin false (by simp;omega) (cw _ (ev1 { vars:=Vh,facts:=[Ka7,Ka8,([([2],-1),([6],1)],-200,-1)],lens:=Kcw,hH:=Uf } [(S.bG.length:Int),e,item,loc,x.now,ge,gi,gl,gd] [.I S.aB,.I S.aD,.I S.done,.I x.now,.bool x.closed,.I gq,.I gb,.I gc,.I gp] (sT S [bU x.bM,aA x.eJ,bQ x.aF,aA x.bD,aA x.down,cN x.ahead]) (.d (aE hat) .nil)) Qp Kcd kn)
  ·exact fin false (by simp;omega) (cw _ (ev1 { vars:=Vh,facts:=[Ka7,Ka8,([([2],-1),([6],1)],1,200)],lens:=Kcw,hH:=Uf } [(S.bG.length:Int),e,item,loc,x.now,ge,gi,gl,gd] [.I S.aB,.I S.aD,.I S.done,.I x.now,.bool x.closed,.I gq,.I gb,.I gc,.I gp] (sT S [bU x.bM,aA x.eJ,bQ x.aF,aA x.bD,aA x.down,cN x.ahead]) (.d (aE hat) .nil)) Qp Kcd kn)
  rcases(by omega:gl<loc∨loc<gl∨gl=loc)with h3|h3|h3
  ·exact fin false (by simp;omega) (cw _ (ev1 { vars:=Vh,facts:=[Ka7,Ka8,Ka9,(Kck,-200,-1)],lens:=Kcw,hH:=Uf } [(S.bG.length:Int),e,item,loc,x.now,ge,gi,gl,gd] [.I S.aB,.I S.aD,.I S.done,.I x.now,.bool x.closed,.I gq,.I gb,.I gc,.I gp] (sT S [bU x.bM,aA x.eJ,bQ x.aF,aA x.bD,aA x.down,cN x.ahead]) (.d (aE hat) .nil)) Qp Kcd kn)
  ·exact fin false (by simp;omega) (cw _ (ev1 { vars:=Vh,facts:=[Ka7,Ka8,Ka9,(Kck,1,200)],lens:=Kcw,hH:=Uf } [(S.bG.length:Int),e,item,loc,x.now,ge,gi,gl,gd] [.I S.aB,.I S.aD,.I S.done,.I x.now,.bool x.closed,.I gq,.I gb,.I gc,.I gp] (sT S [bU x.bM,aA x.eJ,bQ x.aF,aA x.bD,aA x.down,cN x.ahead]) (.d (aE hat) .nil)) Qp Kcd kn)
  rcases(by omega:gd<x.now∨x.now<gd∨gd=x.now)with h4|h4|h4
  ·exact fin false (by simp;omega) (cw _ (ev1 { vars:=Vh,facts:=[Ka7,Ka8,Ka9,Ka5,([([4],-1),([8],1)],-200,-1)],lens:=Kcw,hH:=Uf } [(S.bG.length:Int),e,item,loc,x.now,ge,gi,gl,gd] [.I S.aB,.I S.aD,.I S.done,.I x.now,.bool x.closed,.I gq,.I gb,.I gc,.I gp] (sT S [bU x.bM,aA x.eJ,bQ x.aF,aA x.bD,aA x.down,cN x.ahead]) (.d (aE hat) .nil)) Qp Kcd kn)
  ·exact fin false (by simp;omega) (cw _ (ev1 { vars:=Vh,facts:=[Ka7,Ka8,Ka9,Ka5,([([4],-1),([8],1)],1,200)],lens:=Kcw,hH:=Uf } [(S.bG.length:Int),e,item,loc,x.now,ge,gi,gl,gd] [.I S.aB,.I S.aD,.I S.done,.I x.now,.bool x.closed,.I gq,.I gb,.I gc,.I gp] (sT S [bU x.bM,aA x.eJ,bQ x.aF,aA x.bD,aA x.down,cN x.ahead]) (.d (aE hat) .nil)) Qp Kcd kn)
  ·exact fin true (by simp[h1,h2,h3,h4]) (cw _ (ev1 { vars:=Vh,facts:=[Ka7,Ka8,Ka9,Ka5,([([4],-1),([8],1)],0,0)],lens:=Kcw,hH:=Uf } [(S.bG.length:Int),e,item,loc,x.now,ge,gi,gl,gd] [.I S.aB,.I S.aD,.I S.done,.I x.now,.bool x.closed,.I gq,.I gb,.I gc,.I gp] (sT S [bU x.bM,aA x.eJ,bQ x.aF,aA x.bD,aA x.down,cN x.ahead]) (.d (aE hat) .nil)) Qp Kcm kn)
end
theorem Pn {L:List bF} {p0 p1 p2:Int} (h:LR L) (h0:0≤p0∧p0≤288230376151711744) (h1:0≤p1∧p1≤288230376151711744) (h2:0≤p2∧p2≤288230376151711744) :
  Ck 122 [dF.av ⟨L,p0,p1,p2⟩] (.bB [dF.av ⟨(oP L ⟨p0,p1,p2⟩).1,0,0,0⟩,.agg [.i (oP L ⟨p0,p1,p2⟩).2.1.q,.i (oP L ⟨p0,p1,p2⟩).2.1.v,.i (oP L ⟨p0,p1,p2⟩).2.1.p,.i (oP L ⟨p0,p1,p2⟩).2.2.1.q,.i (oP L ⟨p0,p1,p2⟩).2.2.1.v,.i (oP L ⟨p0,p1,p2⟩).2.2.1.p,.i (oP L ⟨p0,p1,p2⟩).2.2.2.q,.i (oP L ⟨p0,p1,p2⟩).2.2.2.v,.i (oP L ⟨p0,p1,p2⟩).2.2.2.p]]):=by
 obtain⟨M0,X0,e0⟩:∃M X,sS L p0=(M,X):=⟨_,_,rfl⟩
 obtain⟨M1,X1,e1⟩:∃M X,sS M0 p1=(M,X):=⟨_,_,rfl⟩
 obtain⟨M2,X2,e2⟩:∃M X,sS M1 p2=(M,X):=⟨_,_,rfl⟩
 have hs:oP L ⟨p0,p1,p2⟩=(M2,X0,X1,X2):=by simp only[oP,e0,e1,e2]
 rw[hs];dsimp only
 have st:∀(M:List bF) (n:Int) (M':List bF) (X:bF),LR M→0≤n∧n≤288230376151711744→sS M n=(M',X)→(n=0∧M=M'∧X=.zero)∨(0<n∧LR M'∧∃f,Ck 215 [.lit 3 (aG M),.i n] (.bB [.lit 3 (aG M'),X.av,.i f])):=by
  intro M n M' X hM hn he;unfold sS at he;split at he
  ·cases he
   exact .inr ⟨‹_›,pI hM,_,NH hM ⟨by omega,by omega⟩⟩
  ·cases he
   exact .inl ⟨by omega,rfl,rfl⟩
 clear hs;rcases st L p0 _ _ h h0 e0 with⟨rfl,rfl,rfl⟩|⟨q0,hM0,f0,ho0⟩
 ·rcases st L p1 _ _ h h1 e1 with⟨rfl,rfl,rfl⟩|⟨q1,hM1,f1,ho1⟩
  ·rcases st L p2 _ _ h h2 e2 with⟨rfl,rfl,rfl⟩|⟨q2,hM2,f2,ho2⟩
   ·exact cw _ (ev1 {  } [] [] [aG L] .nil) [(.agg [.q 3 0,.i 0,.i 0,.i 0])] (.bB [(.agg [.q 3 0,.i 0,.i 0,.i 0]),(.agg [.i 0,.i 0,.i 0,.i 0,.i 0,.i 0,.i 0,.i 0,.i 0])]) kn
   ·obtain⟨x2q,x2v,x2p⟩:=X2
    exact cw _ (ev1 { vars:=Kba,bN:=UK } [p2] [.I x2q,.I x2v,.I x2p,.I f2] [aG L,aG M2] .nil) [(.agg [.q 3 0,.i 0,.i 0,.v 0])] (.bB [Kad,(.agg [.i 0,.i 0,.i 0,.i 0,.i 0,.i 0,.o 0,.o 1,.o 2])]) (kc ho2 kn)
  ·obtain⟨x1q,x1v,x1p⟩:=X1
   rcases st M1 p2 _ _ hM1 h2 e2 with⟨rfl,rfl,rfl⟩|⟨q2,hM2,f2,ho2⟩
   ·exact cw _ (ev1 { vars:=Kba,bN:=UK } [p1] [.I x1q,.I x1v,.I x1p,.I f1] [aG L,aG M1] .nil) [(.agg [.q 3 0,.i 0,.v 0,.i 0])] (.bB [Kad,(.agg [.i 0,.i 0,.i 0,.o 0,.o 1,.o 2,.i 0,.i 0,.i 0])]) (kc ho1 kn)
   ·obtain⟨x2q,x2v,x2p⟩:=X2
    exact cw _ (ev1 { vars:=Hn,bN:=Jr } [p1,p2] [.I x1q,.I x1v,.I x1p,.I f1,.I x2q,.I x2v,.I x2p,.I f2] [aG L,aG M1,aG M2] .nil) [(.agg [.q 3 0,.i 0,.v 0,.v 1])] (.bB [Kae,(.agg [.i 0,.i 0,.i 0,.o 0,.o 1,.o 2,.o 4,.o 5,.o 6])]) (kc ho1 (kc ho2 kn))
 ·obtain⟨x0q,x0v,x0p⟩:=X0
  rcases st M0 p1 _ _ hM0 h1 e1 with⟨rfl,rfl,rfl⟩|⟨q1,hM1,f1,ho1⟩
  ·rcases st M0 p2 _ _ hM0 h2 e2 with⟨rfl,rfl,rfl⟩|⟨q2,hM2,f2,ho2⟩
   ·exact cw _ (ev1 { vars:=Kba,bN:=UK } [p0] [.I x0q,.I x0v,.I x0p,.I f0] [aG L,aG M0] .nil) [(.agg [.q 3 0,.v 0,.i 0,.i 0])] (.bB [Kad,(.agg [.o 0,.o 1,.o 2,.i 0,.i 0,.i 0,.i 0,.i 0,.i 0])]) (kc ho0 kn)
   ·obtain⟨x2q,x2v,x2p⟩:=X2
    exact cw _ (ev1 { vars:=Hn,bN:=Jr } [p0,p2] [.I x0q,.I x0v,.I x0p,.I f0,.I x2q,.I x2v,.I x2p,.I f2] [aG L,aG M0,aG M2] .nil) [(.agg [.q 3 0,.v 0,.i 0,.v 1])] (.bB [Kae,(.agg [.o 0,.o 1,.o 2,.i 0,.i 0,.i 0,.o 4,.o 5,.o 6])]) (kc ho0 (kc ho2 kn))
  ·obtain⟨x1q,x1v,x1p⟩:=X1
   rcases st M1 p2 _ _ hM1 h2 e2 with⟨rfl,rfl,rfl⟩|⟨q2,hM2,f2,ho2⟩
   ·exact cw _ (ev1 { vars:=Hn,bN:=Jr } [p0,p1] [.I x0q,.I x0v,.I x0p,.I f0,.I x1q,.I x1v,.I x1p,.I f1] [aG L,aG M0,aG M1] .nil) [(.agg [.q 3 0,.v 0,.v 1,.i 0])] (.bB [Kae,(.agg [.o 0,.o 1,.o 2,.o 4,.o 5,.o 6,.i 0,.i 0,.i 0])]) (kc ho0 (kc ho1 kn))
   ·obtain⟨x2q,x2v,x2p⟩:=X2
    exact cw _ (ev1 { vars:=[(1,288230376151711744),(1,288230376151711744),(1,288230376151711744)],bN:=[U0,U1,(215,[.q 3 2,.v 2],(.bB [.q 3 3,Ka2,.o 11]))] } [p0,p1,p2] [.I x0q,.I x0v,.I x0p,.I f0,.I x1q,.I x1v,.I x1p,.I f1,.I x2q,.I x2v,.I x2p,.I f2] [aG L,aG M0,aG M1,aG M2] .nil) [(.agg [.q 3 0,.v 0,.v 1,.v 2])] (.bB [(.agg [.q 3 3,.i 0,.i 0,.i 0]),(.agg [.o 0,.o 1,.o 2,.o 4,.o 5,.o 6,.o 8,.o 9,.o 10])]) (kc ho0 (kc ho1 (kc ho2 kn)))
namespace CO
abbrev cF (e item loc at' w sm i:AV):List AV:=fr 122 [(1,e),(2,item),(3,loc),(5,.ptr 10 0 0 0),(9,.ptr 3 1 0 0),(10,.ptr 10 2 0 0),(11,.i 0),(12,at'),(13,w),(14,sm),(15,i)]
abbrev gF (at' c p l i:AV):List AV:=fr 122 [(5,.ptr 10 0 0 0),(10,.ptr 10 2 0 0),(11,.i 0),(12,at'),(17,c),(19,p),(21,l),(22,i)]
abbrev oI (k n:Nat):AV:=.own 3 1 k 0 n
abbrev oX (n:Nat):AV:=.own 137 9 4 0 n
abbrev Mi (l:List Int):Mc.bX:=.cells 3 1 (aA l)
abbrev cB (S:bL) (xq xv xp:Int):List Mc.bX:=[.cells 31 10 [[.i S.aB,.i S.aD,.lit 1 (aA S.weights),.lit 1 (aO S.methods),.lit 1 (aO S.cP),.lit 8 (aN S.bG),.lit 8 (gH S.aH),.lit 9 (cR S.aM),.lit 6 (gG S.bK),.i S.done]],.cells 101 3 [[.i xq,.i xv,.i xp]],.cells 31 10 V9]
noncomputable def body:Code:=(Tryz.f125).body.getD .skip
abbrev aiX (c:Code) (r:Option (RT Out)):Prop:=CG { vars:=[(0,40)],lens:=[(5,[([0],1)])] } c (Vi++List.replicate 117 .undef) [] [some 0,some 1,some 2,none,none] (cF (.o 3) (.o 4) (.o 5) (.own 3 1 3 0 0) (.own 3 1 4 0 0) Kcd (.i 0)) [ZG,Bq,Ux,(.cells 3 1 []),(.cells 3 1 [])] r
noncomputable def yO:Option (RT Out):=Tz { vars:=[(0,40)],lens:=[(5,[([0],1)])] } body (Vi++List.replicate 117 .undef:List AV).length (Vi++List.replicate 117 .undef) [] 0
theorem alM:aiX body yO:=⟨rfl,by decide +kernel,by decide +kernel⟩
abbrev aex (c:Code):Prop:=gN { vars:=Wv,facts:=[KaW,KaX],lens:=HZ,hH:=Uz,bN:=[(180,QM,Kcd)] } c (cF (.o 3) (.o 4) (.o 5) Kby Kbz (.o 16) (.v 1)) Kr 0 [some 0,some 1,some 2,some 3,some 4] (cF (.o 3) (.o 4) (.o 5) Kby Kbz (.o 16) KbH) Kr
theorem alH:aex (bE yO):=⟨_,rfl,by decide +kernel,by decide +kernel⟩
abbrev aew (c:Code):Prop:=gN { vars:=Wv,facts:=[KaW,KaX,(Kci,0,2147483648)],lens:=HZ,hH:=Uz,bN:=JC } c (cF (.o 3) (.o 4) (.o 5) Kby Kbz Kcm (.v 1)) Kr 0 [some 0,some 1,some 2,some 7,some 9] (cF (.o 3) (.o 4) (.o 5) Kaf Kag Kcm KbH) Kl
theorem alG:aew (bE yO):=⟨_,rfl,by decide +kernel,by decide +kernel⟩
abbrev Xi (c:Code):Prop:=gN { vars:=Wv,facts:=[KaW,KaX,(Kci,1,2147483648)],lens:=HZ,hH:=Uz,bN:=JC } c (cF (.o 3) (.o 4) (.o 5) Kby Kbz Kcd (.v 1)) Kr 0 [some 0,some 1,some 2,some 7,some 9] (cF (.o 3) (.o 4) (.o 5) Kaf Kag Kcm KbH) Kl
theorem ajU:Xi (bE yO):=⟨_,rfl,by decide +kernel,by decide +kernel⟩
abbrev Xk (c:Code):Prop:=gN { vars:=Wv,facts:=[KaW,KaX,(Kci,0,0)],lens:=HZ,hH:=Uz,bN:=JC } c (cF (.o 3) (.o 4) (.o 5) Kby Kbz Kcd (.v 1)) Kr 0 [some 0,some 1,some 2,some 7,some 9] (cF (.o 3) (.o 4) (.o 5) Kaf Kag Kcd KbH) [ZG,Bq,Ux,GH,(.sc 3 1 8 [] [[.i 0]] Kcq)]
theorem ajV:Xk (bE yO):=⟨_,rfl,by decide +kernel,by decide +kernel⟩
abbrev aeC (c:Code):Prop:=gN { vars:=KcA,lens:=H6 } c (cF (.o 3) (.o 4) (.o 5) KbA KbB (.o 9) (.v 0)) Ks 2 [some 0,some 1,some 2,some 3,some 4] (cF (.o 3) (.o 4) (.o 5) KbA KbB (.o 9) (.v 0)) Ks
theorem alJ:aeC (bE yO):=⟨_,rfl,by decide +kernel,by decide +kernel⟩
abbrev aeB (o:Option (RT Out)):Prop:=mI { vars:=KcA,lens:=H6 } Tryz.f125 o 0 (cF (.o 3) (.o 4) (.o 5) KbA KbB Kcd (.v 0)) Ks (D7)
theorem ajY:aeB yO:=⟨_,rfl,by decide +kernel,by decide +kernel,by kernel_rfl⟩
theorem alL:ago { vars:=KcA,lens:=H6 } (cF (.o 3) (.o 4) (.o 5) KbA KbB Kcm (.v 0)) Ks 13 [some 0,some 1,some 2,some 3] (cF (.o 3) (.o 4) (.o 5) KbA (.q 1 8) Kcm (.v 0)) Kx:=by unfold ago;decide +kernel
abbrev aeA (o:Option (RT Out)) (r:Option (RT Out)):Prop:=Tt { vars:=KcA,lens:=H6,bN:=ZC } o 0 (cF (.o 3) (.o 4) (.o 5) KbA (.q 1 8) Kcm (.v 0)) Kx [some 0,some 1,some 2,some 3,some 4] (gF KbA (.q 1 9) (.q 1 10) KaY (.i 0)) [ZG,Bq,Ux,KaE,(.sc 137 9 5 [] [] [([0],1)])] r
noncomputable def IC:Option (RT Out):=rsA { vars:=KcA,lens:=H6,bN:=ZC } yO 0 (cF (.o 3) (.o 4) (.o 5) KbA (.q 1 8) Kcm (.v 0):List AV).length (cF (.o 3) (.o 4) (.o 5) KbA (.q 1 8) Kcm (.v 0)) Kx 4
theorem ajX:aeA yO IC:=⟨rfl,by decide +kernel,by decide +kernel⟩
abbrev aeD (c:Code):Prop:=gN { vars:=[(0,40),(0,40),(0,39),(0,39)],facts:=[(Kce,1,40),KaS],lens:=Ul,hH:=[(7,[([2],1)],[.v 3]),(8,[([2],1)],[.o 6]),(9,[([2],1)],[.o 7]),(10,[([3],1)],[.o 8,.o 9,.o 10,.o 11,.o 12,.o 13,.o 14,.o 15,.o 16])] } c (gF KbA (.q 1 8) (.q 1 9) KaY (.v 2)) Kq 0 [some 0,some 1,some 2,some 3,some 4] (gF KbA (.q 1 8) (.q 1 9) KaY (.e Kcq)) [ZG,Bo,Ux,KaE,(.sc 137 9 10 [([([3],1)],[.o 8,.o 9,.o 10,.o 11,.o 12,.o 6,.o 7,.o 15,.o 16])] [] [([0],1)])]
theorem alK:aeD (bE IC):=⟨_,rfl,by decide +kernel,by decide +kernel⟩
abbrev aez (c:Code):Prop:=gN { vars:=KcA,lens:=Ul } c (gF KbA (.q 1 8) (.q 1 9) KaY (.v 1)) Kq 4 [some 0,some 1,some 2,some 3,some 4] (gF KbA (.q 1 8) (.q 1 9) KaY (.v 1)) Kq
theorem alI:aez (bE IC):=⟨_,rfl,by decide +kernel,by decide +kernel⟩
abbrev aey (o:Option (RT Out)):Prop:=mI { vars:=KcA,lens:=Ul } Tryz.f125 o 2 (gF KbA (.q 1 8) (.q 1 9) KaY (.v 1)) Kq ((.bB [(.agg [.o 0,.o 1,.q 1 1,.q 1 2,.q 1 3,.q 8 0,.q 8 4,.q 9 10,.q 6 6,.o 2]),.i 0]))
theorem ajW:aey IC:=⟨_,rfl,by decide +kernel,by decide +kernel,by kernel_rfl⟩
noncomputable abbrev fC:Func:=Tryz.f125
section
variable {S:bL} {e item loc xq xv xp:Int} {A:Nat→Prop} {w0:World} {a0:Act} {R:AV}
theorem afd (oA:Option (RT Out)) (rn:aex (bE oA)) (rt:aew (bE oA)) (rft:Xi (bE oA)) (rff:Xk (bE oA)) (rx:aeC (bE oA)) (G:Gn S) (X:Ix S e item) (l0:0≤loc) (l1:loc≤1)
  {mm:Nat→St} {w:World} {aa:Act} (pr:@gZ dI dN A w0 a0 mm w aa (cF (.i e) (.i item) (.i loc) (oI 3 0) (oI 4 0) Kcd (.i 0)) (eS (cB S xq xv xp++[Mi [],Mi []])))
  (kk:∀mm w aa,@gZ dI dN A w0 a0 mm w aa (cF (.i e) (.i item) (.i loc) (oI 3 (E8 (cK S e item loc) S.aM S.aM.length).length) (oI 4 (E8 (cK S e item loc) S.aM S.aM.length).length) (.c (.bool (smN (cK S e item loc) S.aM S.aM.length))) (.i (S.aM.length:Int))) (eS (cB S xq xv xp++[Mi (E8 (cK S e item loc) S.aM S.aM.length),Mi (MN (cK S e item loc) S.aM S.aM.length)]))→KS Tryz.prog (oK oA) (Fin Tryz.prog fC A w0 a0 R) (AX.exit 0).to aa w) :
  (Code.loop (bE oA)).wpIn (fw none) 9 Tryz.prog (KS Tryz.prog (oK oA) (Fin Tryz.prog fC A w0 a0 R)) aa w:=by
 have hsl:=G.MY;refine fQ (fun n a' w=>∃(j:Nat),n=S.aM.length-j∧j≤S.aM.length∧∃mm,@gZ dI dN A w0 a0 mm w a' (cF (.i e) (.i item) (.i loc) (oI 3 (E8 (cK S e item loc) S.aM j).length) (oI 4 (E8 (cK S e item loc) S.aM j).length) (.c (.bool (smN (cK S e item loc) S.aM j))) (.i (j:Int))) (eS (cB S xq xv xp++[Mi (E8 (cK S e item loc) S.aM j),Mi (MN (cK S e item loc) S.aM j)]))) ?_ (n:=S.aM.length) ⟨0,rfl,Nat.zero_le _,_,pr⟩
 rintro n aa w ⟨j,rfl,hj,mm,pr⟩
 have hle:=aae (cK S e item loc) S.aM j
 have hll:=Ps (cK S e item loc) S.aM j
 rcases(by omega:j=S.aM.length∨j<S.aM.length)with rfl|hlt
 ·generalize E8 (cK S e item loc) S.aM S.aM.length=A' at *
  generalize MN (cK S e item loc) S.aM S.aM.length=Wt at *
  generalize smN (cK S e item loc) S.aM S.aM.length=sm at *
  obtain⟨m,hm⟩:∃m:Nat,A'.length=m:=⟨_,rfl⟩
  rw[hm]at pr hle hll kk;refine rx.go (ev1 _ [(S.aM.length:Int),(m:Int)] [.I S.aB,.I S.aD,.I S.done,.I e,.I item,.I loc,.I xq,.I xv,.I xp,.bool sm] (sT S [aA A',aA Wt]) .nil) (xK kn) pr ?_
  exact kk
 ·obtain⟨g,hg0⟩:∃g,S.aM[j]?=some g:=⟨_,List.getElem?_eq_getElem hlt⟩
  have hgm:=List.mem_of_getElem? hg0
  have hg:S.aM[(j:Int).toNat]?=some ⟨g.aU,g.item,g.loc,g.eT,g.back,g.cost,g.dV,g.period,g.waits⟩:=by simpa using hg0
  have hgd:S.aM.getD j .nil=g:=by rw[List.getD_eq_getElem?_getD,hg0];rfl
  obtain⟨b1,b2,b3,b4,b5,b6,b7,b8⟩:=G.Mf g hgm;have hw:=SL G X (by omega) (by omega) hgm (loc:=loc)
  have nx:∀(A1 W1:List Int) (s1:Bool),A1=E8 (cK S e item loc) S.aM (j+1)→W1=MN (cK S e item loc) S.aM (j+1)→s1=smN (cK S e item loc) S.aM (j+1)→∀mm w a,@gZ dI dN A w0 a0 mm w a (cF (.i e) (.i item) (.i loc) (oI 3 A1.length) (oI 4 A1.length) (.c (.bool s1)) (.i (1+(j:Int)))) (eS (cB S xq xv xp++[Mi A1,Mi W1]))→∃n',n'<S.aM.length-j∧∃(j':Nat),n'=S.aM.length-j'∧j'≤S.aM.length∧∃mm,@gZ dI dN A w0 a0 mm w a (cF (.i e) (.i item) (.i loc) (oI 3 (E8 (cK S e item loc) S.aM j').length) (oI 4 (E8 (cK S e item loc) S.aM j').length) (.c (.bool (smN (cK S e item loc) S.aM j'))) (.i (j':Int))) (eS (cB S xq xv xp++[Mi (E8 (cK S e item loc) S.aM j'),Mi (MN (cK S e item loc) S.aM j')])):=by
   rintro A1 W1 s1 rfl rfl rfl mm w a pr
   rw[show(1+(j:Int))=((j+1:Nat):Int)by omega]at pr
   exact⟨_,by omega,j+1,rfl,by omega,mm,pr⟩
  simp only[E8,MN,smN,hgd]at nx;generalize cK S e item loc g=b at *;generalize hAe:E8 (cK S e item loc) S.aM j=A' at *
  generalize hWe:MN (cK S e item loc) S.aM j=Wt at *
  generalize smN (cK S e item loc) S.aM j=sm at *
  clear hAe hWe;obtain⟨m,hm⟩:∃m:Nat,A'.length=m:=⟨_,rfl⟩
  rw[hm]at pr hle hll;have ap:∀(l:List Int) (v:Int),aA (l++[v])=aA l++[[.i v]]:=fun l v=>by simp[aA]
  have al:∀(v:Int),(A'++[v]).length=m+1:=fun v=>by simp[hm]
  have m1:(1+(m:Int)).toNat=m+1:=by omega
  cases b with
  |false =>
   refine rn.go (ev1 _ [(S.aM.length:Int),(j:Int),(m:Int),g.eT,g.back] [.I S.aB,.I S.aD,.I S.done,.I e,.I item,.I loc,.I xq,.I xv,.I xp,.I g.aU,.I g.item,.I g.loc,.I g.cost,.I g.dV,.I g.period,.bool g.waits,.bool sm] (sT S [aA A',aA Wt]) (.d (aV hg) .nil)) (xK (kc hw kn)) pr (fd:=cF (.i e) (.i item) (.i loc) (oI 3 m) (oI 4 m) (.c (.bool sm)) (.i (1+(j:Int)))) (bd:=cB S xq xv xp++[Mi A',Mi Wt]) ?_
   intro mm w a pr;rw[←hm]at pr;exact nx A' Wt sm (by simp) (by simp) (by simp) mm w a pr
  |true =>
   rw[if_pos rfl]at nx;have nx:=nx (A'++[(j:Int)]) (Wt++[g.eT-g.back])
   simp only[al]at nx;cases sm with
   |true =>
    refine rt.go (ev1 _ [(S.aM.length:Int),(j:Int),(m:Int),g.eT,g.back] [.I S.aB,.I S.aD,.I S.done,.I e,.I item,.I loc,.I xq,.I xv,.I xp,.I g.aU,.I g.item,.I g.loc,.I g.cost,.I g.dV,.I g.period,.bool g.waits] (sT S [aA A',aA Wt]) (.d (aV hg) .nil)) (xK (kc hw kn)) pr (fd:=cF (.i e) (.i item) (.i loc) (oI 3 (1+(m:Int)).toNat) (oI 4 (1+(m:Int)).toNat) Kcm (.i (1+(j:Int)))) (bd:=cB S xq xv xp++[.cells 3 1 (aA A'++[[.i (j:Int)]]),.cells 3 1 (aA Wt++[[.i (g.eT-g.back)]])]) ?_
    intro mm w a pr;rw[m1,←ap,←ap]at pr;exact nx true (by simp) (by simp) (by simp) mm w a pr
   |false =>
    rcases(by omega:g.back<g.eT∨g.back=g.eT)with hb|hb
    ·refine rft.go (ev1 _ [(S.aM.length:Int),(j:Int),(m:Int),g.eT,g.back] [.I S.aB,.I S.aD,.I S.done,.I e,.I item,.I loc,.I xq,.I xv,.I xp,.I g.aU,.I g.item,.I g.loc,.I g.cost,.I g.dV,.I g.period,.bool g.waits] (sT S [aA A',aA Wt]) (.d (aV hg) .nil)) (xK (kc hw kn)) pr (fd:=cF (.i e) (.i item) (.i loc) (oI 3 (1+(m:Int)).toNat) (oI 4 (1+(m:Int)).toNat) Kcm (.i (1+(j:Int)))) (bd:=cB S xq xv xp++[.cells 3 1 (aA A'++[[.i (j:Int)]]),.cells 3 1 (aA Wt++[[.i (g.eT-g.back)]])]) ?_
     intro mm w a pr;rw[m1,←ap,←ap]at pr;exact nx true (by simp) (by simp) (by simp[hb]) mm w a pr
    ·have hz:g.eT-g.back=0:=by omega
     rw[hz]at nx;refine rff.go (ev1 _ [(S.aM.length:Int),(j:Int),(m:Int),g.eT,g.back] [.I S.aB,.I S.aD,.I S.done,.I e,.I item,.I loc,.I xq,.I xv,.I xp,.I g.aU,.I g.item,.I g.loc,.I g.cost,.I g.dV,.I g.period,.bool g.waits] (sT S [aA A',aA Wt]) (.d (aV hg) .nil)) (xK (kc hw kn)) pr (fd:=cF (.i e) (.i item) (.i loc) (oI 3 (1+(m:Int)).toNat) (oI 4 (1+(m:Int)).toNat) Kcd (.i (1+(j:Int)))) (bd:=cB S xq xv xp++[.cells 3 1 (aA A'++[[.i (j:Int)]]),.cells 3 1 (aA Wt++[[.i 0]])]) ?_
     intro mm w a pr;rw[m1,←ap,←ap]at pr;exact nx false (by simp) (by simp) (by simp[hb]) mm w a pr
theorem afc (o2:Option (RT Out)) (rr:aeD (bE o2)) (ry:aez (bE o2)) (G:Gn S) {A' C P:List Int} {m:Nat} (hA:A'.length=m) (hC:C.length=m) (hP:P.length=m) (hm:m≤40) (hin:∀k∈A',0≤k∧k<S.aM.length)
  {mm:Nat→St} {w:World} {aa:Act} (pr:@gZ dI dN A w0 a0 mm w aa (gF (oI 3 m) (.lit 1 (aA C)) (.lit 1 (aA P)) (oX S.aM.length) (.i 0)) (eS (cB S xq xv xp++[Mi A',.cells 137 9 (cR S.aM)])))
  (kk:∀mm w aa,@gZ dI dN A w0 a0 mm w aa (gF (oI 3 m) (.lit 1 (aA C)) (.lit 1 (aA P)) (oX S.aM.length) (.i (m:Int))) (eS (cB S xq xv xp++[Mi A',.cells 137 9 (cR (sV A' C P S.aM m))]))→KS Tryz.prog (oK o2) (Fin Tryz.prog fC A w0 a0 R) (AX.exit 2).to aa w) :
  (Code.loop (bE o2)).wpIn (fw none) 9 Tryz.prog (KS Tryz.prog (oK o2) (Fin Tryz.prog fC A w0 a0 R)) aa w:=by
 have hsl:=G.MY;refine fQ (fun n a' w=>∃(j:Nat),n=m-j∧j≤m∧∃mm,@gZ dI dN A w0 a0 mm w a' (gF (oI 3 m) (.lit 1 (aA C)) (.lit 1 (aA P)) (oX S.aM.length) (.i (j:Int))) (eS (cB S xq xv xp++[Mi A',.cells 137 9 (cR (sV A' C P S.aM j))]))) ?_ (n:=m) ⟨0,rfl,Nat.zero_le _,_,pr⟩
 rintro n aa w ⟨j,rfl,hj,mm,pr⟩
 have hlen:=Ay A' C P S.aM j;rcases(by omega:m=j∨j<m)with rfl|hlt
 ·generalize sV A' C P S.aM m=c2 at *
  refine ry.go (ev1 _ [(S.aM.length:Int),(m:Int)] [.I S.aB,.I S.aD,.I S.done,.I xq,.I xv,.I xp] (sT S [aA A',aA C,aA P,cR c2]) .nil) (xK kn) pr ?_
  exact kk
 ·have hk:A'[(j:Int).toNat]?=some (A'.getD j 0):=getD_some (by omega)
  have hc:C[(j:Int).toNat]?=some (C.getD j 0):=getD_some (by omega)
  have hp:P[(j:Int).toNat]?=some (P.getD j 0):=getD_some (by omega)
  have hkb:=hin _ (eL (d:=0) (k:=j) (l:=A') (by omega))
  have nx:cR (sV A' C P S.aM (j+1))=(cR (sV A' C P S.aM j)).set (A'.getD j 0).toNat (({ (sV A' C P S.aM j).getD (A'.getD j 0).toNat .nil with cost:=C.getD j 0,dV:=P.getD j 0 }:pZ).row):=by
   simp only[sV,cR,List.map_set]
  have fin:∀mm w a,@gZ dI dN A w0 a0 mm w a (gF (oI 3 m) (.lit 1 (aA C)) (.lit 1 (aA P)) (oX S.aM.length) (.i (1+(j:Int)))) (eS (cB S xq xv xp++[Mi A',.cells 137 9 (cR (sV A' C P S.aM (j+1)))]))→∃n',n'<m-j∧∃(j':Nat),n'=m-j'∧j'≤m∧∃mm,@gZ dI dN A w0 a0 mm w a (gF (oI 3 m) (.lit 1 (aA C)) (.lit 1 (aA P)) (oX S.aM.length) (.i (j':Int))) (eS (cB S xq xv xp++[Mi A',.cells 137 9 (cR (sV A' C P S.aM j'))])):=by
   intro mm w a pr;rw[show(1+(j:Int))=((j+1:Nat):Int)by omega]at pr
   exact⟨_,by omega,j+1,rfl,by omega,mm,pr⟩
  rw[nx]at fin;clear nx;have hg:(sV A' C P S.aM j)[(A'.getD j 0).toNat]?=some ((sV A' C P S.aM j).getD (A'.getD j 0).toNat .nil):=getD_some (by omega)
  generalize A'.getD j 0=k at *;generalize C.getD j 0=c at *;generalize P.getD j 0=p at *;generalize sV A' C P S.aM j=c2 at *;generalize c2.getD k.toNat .nil=g at *;have hg:c2[k.toNat]?=some ⟨g.aU,g.item,g.loc,g.eT,g.back,g.cost,g.dV,g.period,g.waits⟩:=hg
  refine rr.go (ev1 _ [(S.aM.length:Int),(m:Int),(j:Int),k] [.I S.aB,.I S.aD,.I S.done,.I xq,.I xv,.I xp,.I c,.I p,.I g.aU,.I g.item,.I g.loc,.I g.eT,.I g.back,.I g.cost,.I g.dV,.I g.period,.bool g.waits] (sT S [aA A',aA C,aA P,cR c2]) (.d (aI hk) (.d (aI hc) (.d (aI hp) (.d (aV hg) .nil))))) (xK kn) pr (fd:=gF (oI 3 m) (.lit 1 (aA C)) (.lit 1 (aA P)) (oX S.aM.length) (.i (1+(j:Int)))) (bd:=cB S xq xv xp++[Mi A',.cells 137 9 ((cR c2).set k.toNat [.i g.aU,.i g.item,.i g.loc,.i g.eT,.i g.back,.i c,.i p,.i g.period,.c (.bool g.waits)])]) ?_
  intro mm w a pr;exact fin mm w a pr
theorem walk (oA o2:Option (RT Out)) (rA:aiX body oA) (rn:aex (bE oA)) (rt:aew (bE oA)) (rft:Xi (bE oA)) (rff:Xk (bE oA)) (rx:aeC (bE oA)) (r0:aeB oA) (r1:aeA oA o2) (rr:aeD (bE o2)) (ry:aez (bE o2)) (rz:aey o2)
  (G:Gn S) (X:Ix S e item) (l0:0≤loc) (l1:loc≤1) (hv:0≤xv∧xv≤288230376151711744) (hp:pB xp) :
  Ck 125 [S.av,.i e,.i item,.i loc,bF.av ⟨xq,xv,xp⟩] (.bB [(pL S e item loc ⟨xq,xv,xp⟩).av,.i 0]):=by
 have hsl:=G.MY;refine CK.gY Tryz.func125 (c:=body) (by kernel_rfl) (Fh.out) (yC.out) fun A w0 a0=>?_
 generalize hR:AV.bB [(pL S e item loc ⟨xq,xv,xp⟩).av,.i 0]=R
 intro mm w aa pr;rw[Tryz.ntmps125]at pr;refine rA.go (ev1 _ [(S.aM.length:Int)] [.I S.aB,.I S.aD,.I S.done,.I e,.I item,.I loc,.I xq,.I xv,.I xp] (sT S []) .nil) (xK kn) pr (fd:=cF (.i e) (.i item) (.i loc) (oI 3 0) (oI 4 0) Kcd (.i 0)) (bd:=cB S xq xv xp++[Mi [],Mi []]) ?_
 intro mm w aa pr;refine afd oA rn rt rft rff rx G X l0 l1 pr ?_
 intro mm w aa pr;unfold pL at hR;have hw:=adm (cK S e item loc) S.aM S.aM.length (fun x hx=>by obtain⟨_,_,_,b4,b5,_⟩:=G.Mf x hx;omega) (Nat.le_refl _)
 have hle:=aae (cK S e item loc) S.aM S.aM.length
 have hll:=Ps (cK S e item loc) S.aM S.aM.length
 have hin:=af9 (cK S e item loc) S.aM S.aM.length
 have hso:=PX (cK S e item loc) S.aM S.aM.length
 generalize E8 (cK S e item loc) S.aM S.aM.length=A' at *
 generalize MN (cK S e item loc) S.aM S.aM.length=Wt at *
 generalize smN (cK S e item loc) S.aM S.aM.length=sm at *
 obtain⟨m,hm⟩:∃m:Nat,A'.length=m:=⟨_,rfl⟩
 rw[hm]at pr hle hll hR;cases sm with
 |false =>
  rw[if_pos rfl]at hR;subst hR;exact r0.go (ev1 _ [(S.aM.length:Int),(m:Int)] [.I S.aB,.I S.aD,.I S.done,.I e,.I item,.I loc,.I xq,.I xv,.I xp] (sT S [aA A',aA Wt]) .nil) (xK kn) pr
 |true =>
  rw[if_neg (by simp)]at hR
  obtain⟨mm,pr⟩:=alL.go (ev1 _ [(S.aM.length:Int),(m:Int)] [.I S.aB,.I S.aD,.I S.done,.I e,.I item,.I loc,.I xq,.I xv,.I xp] (sT S [aA A',aA Wt]) .nil) pr (fd:=cF (.i e) (.i item) (.i loc) (oI 3 m) (.lit 1 (aA Wt)) Kcm (.i (S.aM.length:Int))) (bd:=cB S xq xv xp++[Mi A'])
  have hso:=hso rfl;have hc:=Cj (v:=xv) (ws:=Wt) ⟨by omega,by omega⟩ hw (by omega) hso
  have hp:=Cj (v:=xp) (ws:=Wt) hp hw (by omega) hso
  obtain⟨-,lc,-⟩:=rW (v:=xv) (w:=Wt) ⟨by omega,by omega⟩ hw (by omega) hso
  obtain⟨-,lp,-⟩:=rW (v:=xp) (w:=Wt) ‹pB xp› hw (by omega) hso
  dsimp only at hR
  generalize (kZ xv Wt).1=C at *
  generalize (kZ xp Wt).1=P at *
  refine r1.go (ev1 _ [(S.aM.length:Int),(m:Int)] [.I S.aB,.I S.aD,.I S.done,.I e,.I item,.I loc,.I xq,.I xv,.I xp] (sT S [aA A',aA Wt,aA C,aA P]) .nil) (xK (kc hc (kc hp kn))) pr (fd:=gF (oI 3 m) (.lit 1 (aA C)) (.lit 1 (aA P)) (oX S.aM.length) (.i 0)) (bd:=cB S xq xv xp++[Mi A',.cells 137 9 (cR S.aM)]) ?_
  intro mm w aa pr;refine afc o2 rr ry G hm (by omega) (by omega) (by omega) hin pr ?_
  intro mm w aa pr;subst hR;have hlen:=Ay A' C P S.aM m;generalize sV A' C P S.aM m=c2 at *;exact rz.go (ev1 _ [(S.aM.length:Int),(m:Int)] [.I S.aB,.I S.aD,.I S.done,.I xq,.I xv,.I xp] (sT S [aA A',aA C,aA P,cR c2]) .nil) (xK kn) pr
end
end CO
section
variable {S:bL} {e item loc:Int}
theorem Pk {xq xv xp:Int} (G:Gn S) (X:Ix S e item) (l0:0≤loc) (l1:loc≤1) (hv:0≤xv∧xv≤288230376151711744) (hp:pB xp) :
  Ck 125 [S.av,.i e,.i item,.i loc,bF.av ⟨xq,xv,xp⟩] (.bB [(pL S e item loc ⟨xq,xv,xp⟩).av,.i 0]) :=
 CO.walk CO.yO CO.IC CO.alM CO.alH CO.alG CO.ajU CO.ajV CO.alJ CO.ajY CO.ajX CO.alK CO.alI CO.ajW G X l0 l1 hv hp
end
end
section
open Mc
theorem ads {v q p:Int} (hv:¬ v<0) (hq:¬ q<0) (hp:¬ p<0) (iv:jY v) (iq:jY q) (ip:jY p) :
  tS v q p=(if jB q p > 0∨jA q p ≥ IntKind.u64.wrap v then 0 else v-jA q p)∧(¬ jB q p > 0→¬ jA q p ≥ IntKind.u64.wrap v→0≤jA q p∧jA q p<v):=by
 have h1:=PJ (a:=q) (b:=p) (by omega) iq.hi (by omega) ip.hi
 have h2:=CN q p;have h3:=xG q p;have e:IntKind.u64.wrap v=v:=wrap_small (by omega) (by have:=iv.hi;omega)
 rw[e];unfold tS;rw[if_neg (by omega)]
 have hvb:=iv.hi;generalize jB q p=hi at *;generalize jA q p=lo at *;generalize q*p=qp at *
 refine⟨?_,fun a b=>⟨by omega,by omega⟩⟩
 split
 ·rw[if_pos];omega
 ·rw[if_neg (by omega)];omega
set_option maxHeartbeats 800000 in
theorem Ok (v q p:Int) (w:World) (iv:jY v) (iq:jY q) (ip:jY p) :
  Calls Tryz.prog 126 #[.int .i64 v,.int .i64 q,.int .i64 p] w fun e w'=>e=.returned (.int .i64 (tS v q p))∧Below w.heap.size w w':=by
 by_cases hv:v<0
 ·have e:tS v q p=0:=by simp[tS,hv]
  rw[e];go_enter Tryz.func126,Tryz.ntmps126
  go_wp2_with fail
  go_ret;exact⟨rfl,blw⟩
 by_cases hq:q<0
 ·have e:tS v q p=0:=by simp[tS,hq]
  rw[e];go_enter Tryz.func126,Tryz.ntmps126
  go_wp2_with fail
  go_ret;exact⟨rfl,blw⟩
 by_cases hp:p<0
 ·have e:tS v q p=0:=by simp[tS,hp]
  rw[e];go_enter Tryz.func126,Tryz.ntmps126
  go_wp2_with fail
  go_ret;exact⟨rfl,blw⟩
 obtain⟨ht,hb⟩:=ads hv hq hp iv iq ip;have h3:=xG q p;have h2:=CN q p;have hvb:=iv.hi;have e1:IntKind.u64.wrap v=v:=wrap_small (by omega) (by omega)
 rw[e1]at ht hb;by_cases hh:jB q p > 0
 ·have e:tS v q p=0:=by rw[ht,if_pos (.inl hh)]
  rw[e];clear ht hb;go_enter Tryz.func126,Tryz.ntmps126
  go_wp2_with (go_at_call 182;refine(wD _ _ _).mono ?_;rintro e w' ⟨rfl,rfl⟩)
  go_ret;exact⟨rfl,blw⟩
 by_cases hl:jA q p ≥ v
 ·have e:tS v q p=0:=by rw[ht,if_pos (.inr hl)]
  rw[e];clear ht hb;go_enter Tryz.func126,Tryz.ntmps126
  go_wp2_with (go_at_call 182;refine(wD _ _ _).mono ?_;rintro e w' ⟨rfl,rfl⟩)
  go_ret;exact⟨rfl,blw⟩
 ·have e:tS v q p=v-jA q p:=by rw[ht,if_neg (by omega)]
  obtain⟨b1,b2⟩:=hb hh hl;rw[e];clear ht;go_enter Tryz.func126,Tryz.ntmps126
  go_wp2_with (go_at_call 182;refine(wD _ _ _).mono ?_;rintro e w' ⟨rfl,rfl⟩)
  go_ret;exact⟨rfl,blw⟩
theorem Pm {v q p:Int} (hv:jY v) (hq:jY q) (hp:jY p):Ck 126 [.i v,.i q,.i p] (.i (tS v q p)) :=
 ⟨aX (.c _) (aX (.c _) (aX (.c _) eR)),.c _,@akl dI dN _ [.int .i64 v,.int .i64 q,.int .i64 p] _ fun w=>(Ok v q p w hv hq hp).mono fun e w' h=>⟨h.1,h.2⟩⟩
set_option maxRecDepth 1000000
section
variable {S:bL} {e item loc:Int}
theorem Pj (G:Gn S) (X:Ix S e item) (l0:0≤loc) (l1:loc≤1) (hm:S.cG e item=3) :
  Ck 62 [S.av,.i e,.i item,.i loc] (.bB [(iG S e item loc).1.av,.i (iG S e item loc).2]):=by
 have h:=G.toStOk;have:=h.hn;have:=h.hw;have:=X.e0;have:=X.e1;have:=X.i0;have:=X.i1
 have ha:=kD h X l0 l1;have hpo:=h.Rv X l0 l1;obtain⟨a1,a2,a3,a4,a5⟩:=aaC (d:=((S.aJ e).bS (2*item+loc)).pn) hpo.lr
 have hone:(oP ((S.aJ e).bS (2*item+loc)).bH ((S.aJ e).bS (2*item+loc)).pn).1.length≤1:=by rcases hpo.one with h1|h1<;>omega
 have q0:=gW a1.ok;have b0:=hpo.a0;have b1:=hpo.b0;have b2:=hpo.c0;have b3:=hpo.sum;have b4:=hpo.lr.q
 have hlr:=hpo.lr;have hu:=fun P=>pW h X l0 l1 P
 have hK:=fun p hp=>nK h X l0 l1 (p:=p) hp
 rw[hm]at hK;unfold iG;generalize (S.aJ e).bS (2*item+loc)=P at *
 obtain⟨L,p0,p1,p2⟩:=P;have hs:=Pn (L:=L) (p0:=p0) (p1:=p1) (p2:=p2) hlr (by change 0≤p0 at b0;change 0≤p1 at b1;change 0≤p2 at b2;change p0+p1+p2≤_ at b3;omega) (by change 0≤p0 at b0;change 0≤p1 at b1;change 0≤p2 at b2;change p0+p1+p2≤_ at b3;omega) (by change 0≤p0 at b0;change 0≤p1 at b1;change 0≤p2 at b2;change p0+p1+p2≤_ at b3;omega)
 change 0≤p0 at b0;change 0≤p1 at b1;change 0≤p2 at b2;change p0+p1+p2≤_ at b3
 have epn:(⟨L,p0,p1,p2⟩:dF).pn=⟨p0,p1,p2⟩:=rfl
 rw[epn]at a1 a2 a3 a4 a5 hone q0 ⊢;dsimp only at a1 a2 a3 a4 a5 hone q0 hlr b4 b3 ⊢
 by_cases hz:p0+p1+p2=0
 ·rw[if_pos hz]
  exact cw _ (ev1 { vars:=[(0,3),(0,4),(0,1),(0,288230376151711744),(0,288230376151711744),(0,288230376151711744)],facts:=[([([3],1),([4],1),([5],1)],0,0)],bN:=[Uc] } [e,item,loc,p0,p1,p2] [.I S.aB,.I S.aD,.I S.done] (sT S [aG L]) .nil) Db D7 (kc ha kn)
 rw[if_neg hz];generalize oP L ⟨p0,p1,p2⟩=r at *
 obtain⟨M,⟨xq,xv,xp⟩,⟨yq,yv,yp⟩,⟨zq,zv,zp⟩⟩:=r
 dsimp only at *
 have hu:=hu ⟨M,0,0,0⟩
 have K0:=hK ⟨M,0,0,0⟩ ⟨a1,.inr hone,by show(0:Int)≤0;omega,by show(0:Int)≤0;omega,by show(0:Int)≤0;omega,by show(0:Int)+0+0≤qs M;omega,.inl rfl⟩
 generalize S.bT e ((S.aJ e).dG (2*item+loc) ⟨M,0,0,0⟩)=S0 at *
 obtain⟨E1,rfl⟩:=K0.ex;have hp:=dA K0.ok (K0.ix X) (l:=[⟨5,xv⟩,⟨7,yv⟩,⟨8,zv⟩,⟨0,-xv⟩,⟨0,-yv⟩,⟨0,-zv⟩]) (sX fmo) (by simp)
 obtain⟨k1,e1,-⟩:=dY K0.ok (K0.ix X) [⟨5,xv⟩,⟨7,yv⟩,⟨8,zv⟩,⟨0,-xv⟩,⟨0,-yv⟩,⟨0,-zv⟩]
 generalize dH (S.aZ E1) e [⟨5,xv⟩,⟨7,yv⟩,⟨8,zv⟩,⟨0,-xv⟩,⟨0,-yv⟩,⟨0,-zv⟩]=r at *
 obtain⟨S1,f⟩:=r;dsimp only at *
 have K1:=K0.trans k1;obtain⟨E2,rfl⟩:=K1.ex;by_cases h0:f=0
 rotate_left
 ·rw[if_pos h0]
  have f2:1≤f∧f≤20:=by unfold fF at e1;omega
  exact cw _ (ev1 { vars:=KM,facts:=WE,bN:=[Uc,Jq,QW,(92,Jc,(.bB [KbS,.v 9]))] } [e,item,loc,p0,p1,p2,xv,yv,zv,f] [.I S.aB,.I S.aD,.I S.done,.I xq,.I xp,.I yq,.I yp,.I zq,.I zp] (sT S [aG L,aG M,aN E1,aN E2]) .nil) Db D8 (kc ha (kc hs (kc hu (kc hp kn))))
 subst h0;rw[if_neg (by simp)]
 have ht:=eG K1.ok (K1.ix X) (r:=[0,0,0,0,0,xv,0,0,yv,zv,0]) rfl
 obtain⟨k2,e2,-⟩:=fJ K1.ok (K1.ix X) (r:=[0,0,0,0,0,xv,0,0,yv,zv,0]) rfl
 generalize eO (S.aZ E2) e item [0,0,0,0,0,xv,0,0,yv,zv,0]=r at *
 obtain⟨S2,f⟩:=r;dsimp only at *
 have K2:=K1.trans k2;obtain⟨E3,rfl⟩:=K2.ex;by_cases h0:f=0
 rotate_left
 ·rw[if_pos h0]
  have f2:1≤f∧f≤20:=by unfold fF at e2;omega
  exact cw _ (ev1 { vars:=KM,facts:=WE,bN:=[Uc,Jq,QW,KD,(124,QN,(.bB [KbT,.v 9]))] } [e,item,loc,p0,p1,p2,xv,yv,zv,f] [.I S.aB,.I S.aD,.I S.done,.I xq,.I xp,.I yq,.I yp,.I zq,.I zp] (sT S [aG L,aG M,aN E1,aN E2,aN E3]) .nil) Db D8 (kc ha (kc hs (kc hu (kc hp (kc ht kn)))))
 subst h0;rw[if_neg (by simp)]
 have hc:=Pk (xq:=xq) (xv:=xv) (xp:=xp) (K2.gn G) (K2.ix X) l0 l1 a3.1 a3.2
 obtain⟨c,hcd⟩:∃c,pL (S.aZ E3) e item loc ⟨xq,xv,xp⟩={ S.aZ E3 with aM:=c }:=by
  unfold pL;split
  ·exact⟨S.aM,rfl⟩
  ·exact⟨_,rfl⟩
 rw[hcd]at hc;dsimp only at hc ⊢
 rw[hcd];exact cw _ (ev1 { vars:=[(0,3),(0,4),(0,1),(0,288230376151711744),(0,288230376151711744),(0,288230376151711744),(0,288230376151711744),(0,288230376151711744),(0,288230376151711744)],facts:=WE,bN:=[Uc,Jq,QW,KD,(124,QN,(.bB [KbT,.i 0])),(125,[KbT,.v 0,.v 1,.v 2,(.agg [.o 3,.v 6,.o 4])],Zj)] } [e,item,loc,p0,p1,p2,xv,yv,zv] [.I S.aB,.I S.aD,.I S.done,.I xq,.I xp,.I yq,.I yp,.I zq,.I zp] (sT S [aG L,aG M,aN E1,aN E2,aN E3,cR c]) .nil) Db Zj (kc ha (kc hs (kc hu (kc hp (kc ht (kc hc kn))))))
end
namespace MK
abbrev mF (e lines i:AV):List AV:=fr 99 [(1,e),(2,.ptr 10 0 0 0),(4,.ptr 10 1 0 0),(5,.i 0),(6,.ptr 10 2 0 0),(7,lines),(8,i)]
abbrev oL (n:Nat):AV:=.own 44 2 9 0 n
abbrev mB (S:bL) (e:Int) (x:dR) (dn:List Int):List Mc.bX:=[.cells 31 10 [[.i S.aB,.i S.aD,.lit 1 (aA S.weights),.lit 1 (aO S.methods),.lit 1 (aO S.cP),.lit 8 (aN S.bG),.lit 8 (gH S.aH),.lit 9 (cR S.aM),.lit 6 (gG S.bK),.i S.done]],
 .cells 31 10 V9,
 .cells 31 10 [[.i S.aB,.i S.aD,.lit 1 (aA S.weights),.lit 1 (aO S.methods),.lit 1 (aO S.cP),.own 76 8 3 0 S.bG.length,.lit 8 (gH S.aH),.lit 9 (cR S.aM),.lit 6 (gG S.bK),.i S.done]],
 .cells 76 8 ((aN S.bG).set e.toNat [.i x.now,.c (.bool x.closed),.own 161 4 4 0 (2*(S.weights.length:Int)).toNat,.own 3 1 5 0 17,.own 140 11 6 0 S.weights.length,.own 3 1 7 0 S.weights.length,.own 3 1 8 0 S.weights.length,.lit 8 (cN x.ahead)]),
 .cells 161 4 (bU x.bM),.cells 3 1 (aA x.eJ),.cells 140 11 (bQ x.aF),.cells 3 1 (aA x.bD),.cells 3 1 (aA dn)]
abbrev lB (l:List dO):Mc.bX:=.cells 44 2 (dQ l)
noncomputable def body:Code:=(Tryz.f63).body.getD .skip
abbrev aiV (c:Code) (r:Option (RT Out)):Prop:=CG { vars:=Kcc,facts:=KaJ,lens:=Zp,hH:=Ug } c (KaD++List.replicate 97 .undef) [] [some 0,some 1,some 10,some 4,some 5,some 6,some 7,some 8,some 9,none] (mF (.v 1) (.own 44 2 9 0 0) (.i 0)) [ZG,Ux,Qr,KE,Kar,KaF,Kah,Kav,(.sc 3 1 11 [] [] [([2],1)]),(.cells 44 2 [])] r
noncomputable def IA:Option (RT Out):=Tz { vars:=Kcc,facts:=KaJ,lens:=Zp,hH:=Ug } body (KaD++List.replicate 97 .undef:List AV).length (KaD++List.replicate 97 .undef) [] 0
theorem alz:aiV body IA:=⟨rfl,by decide +kernel,by decide +kernel⟩
abbrev Xe (c:Code):Prop:=gN { vars:=[(0,4),(0,3),(1,5),(0,10),(0,4),(-1152921504606846976,-1)],facts:=WF,lens:=JQ,hH:=[Up,(10,[([4],1)],[.v 5])] } c (mF (.v 1) Kbb (.v 4)) Kc 0 [some 0,some 1,some 2,some 3,some 4,some 5,some 6,some 7,some 8,some 9] (mF (.v 1) Kbb KbP) Kc
theorem ajD:Xe (bE IA):=⟨_,rfl,by decide +kernel,by decide +kernel⟩
abbrev Ou (c:Code):Prop:=gN { vars:=[(0,4),(0,3),(1,5),(0,10),(0,4),(0,288230376151711744),(0,288230376151711744),(0,288230376151711744)],facts:=WF,lens:=JQ,hH:=[Up,(10,[([4],1)],[.v 5]),(13,[([4],1)],[.v 7])],bN:=[(52,[Kb1,.v 1,.v 4],(.agg [.o 5,.o 6,.o 7])),(126,[.o 6,.o 5,.v 5],(.v 6))] } c (mF (.v 1) Kbb (.v 4)) Kc 0 [some 0,some 1,some 2,some 3,some 4,some 5,some 6,some 7,some 8,some 12] (mF (.v 1) (.cQ 44 2 9 [([],2),([3],1)]) KbP) [ZG,Ux,Qr,KE,Kar,KaF,Kah,Kav,(.sc 3 1 13 [([([4],1)],[.v 6])] [] [([2],1)]),(.sc 44 2 14 [] [[.i 10,(.e [([6],1),([7],-1)])],[.i 11,(.e [([6],-1),([7],1)])]] [([],2),([3],1)])]
theorem agF:Ou (bE IA):=⟨_,rfl,by decide +kernel,by decide +kernel⟩
abbrev aeq (c:Code):Prop:=gN { vars:=[(0,4),(0,3),(1,5),(0,10)],facts:=KaJ,lens:=JQ,hH:=Ug } c (mF (.v 1) Kbb (.v 2)) Kc 2 [some 0,some 1,some 2,some 3,some 4,some 5,some 6,some 7,some 8,some 9] (mF (.v 1) Kbb (.v 2)) Kc
theorem aly:aeq (bE IA):=⟨_,rfl,by decide +kernel,by decide +kernel⟩
abbrev aa2 (o:Option (RT Out)):Prop:=mI { vars:=[(0,4),(0,3),(1,5),(0,10)],facts:=KaJ,lens:=JQ,hH:=Ug,bN:=[(92,J5,DH)] } Tryz.f63 o 0 (mF (.v 1) Kbb (.v 2)) Kc (DH)
theorem agG:aa2 IA:=⟨_,rfl,by decide +kernel,by decide +kernel,by kernel_rfl⟩
abbrev RD (o:Option (RT Out)):Prop:=mI { vars:=[(0,4),(0,3),(1,5),(0,10),(1,20)],facts:=KaJ,lens:=JQ,hH:=Ug,bN:=[(92,J5,(.bB [(sN (.q 8 15) (.o 2)),.v 4]))] } Tryz.f63 o 0 (mF (.v 1) Kbb (.v 2)) Kc ((.bB [Kb1,.v 4]))
theorem adv:RD IA:=⟨_,rfl,by decide +kernel,by decide +kernel,by kernel_rfl⟩
noncomputable abbrev fC:Func:=Tryz.f63
section
variable {S:bL} {e:Int} {A:Nat→Prop} {w0:World} {a0:Act} {R:AV}
theorem loop (oA:Option (RT Out)) (rn:Xe (bE oA)) (ry:Ou (bE oA)) (rx:aeq (bE oA)) (G:Gn S) (X:Ix S e 0) {x:dR} (hx:x=S.aJ e)
  {mm:Nat→St} {w:World} {aa:Act} (pr:@gZ dI dN A w0 a0 mm w aa (mF (.i e) (oL 0) (.i 0)) (eS (mB S e x (mZ S e 0)++[lB (nN S e 0)])))
  (kk:∀mm w aa,@gZ dI dN A w0 a0 mm w aa (mF (.i e) (oL (nN S e S.weights.length).length) (.i (S.weights.length:Int))) (eS (mB S e x (mZ S e S.weights.length)++[lB (nN S e S.weights.length)]))→KS Tryz.prog (oK oA) (Fin Tryz.prog fC A w0 a0 R) (AX.exit 0).to aa w) :
  (Code.loop (bE oA)).wpIn (fw none) 9 Tryz.prog (KS Tryz.prog (oK oA) (Fin Tryz.prog fC A w0 a0 R)) aa w:=by
 have h:=G.toStOk;have hn:=h.hn;have hw:=h.hw;have:=X.e0;have:=X.e1;have:=X.i1
 have m58:M58=288230376151711744:=rfl
 have E:=h.CJ X;have hat:=h.at_ X;have hat:S.bG[e.toNat]?=some ⟨⟨x.now,x.closed,x.bM,x.eJ,x.aF,x.bD,x.down⟩,x.ahead⟩:=by rw[hx];exact hat
 have pl:=E.pl;have bl:=E.bl;have rl:=E.rl;have prl:=E.pr;have dl:=E.dl;have prb:=E.prb;have db:=E.db
 rw[←hx]at pl bl rl prl dl prb db;have hdn:∀j,(mZ S e j).length=S.weights.length:=fun j=>by rw[AL,←hx];exact dl
 have hln:=RX S e;refine fQ (fun n a' w=>∃(j:Nat),n=S.weights.length-j∧j≤S.weights.length∧∃mm,@gZ dI dN A w0 a0 mm w a' (mF (.i e) (oL (nN S e j).length) (.i (j:Int))) (eS (mB S e x (mZ S e j)++[lB (nN S e j)]))) ?_ (n:=S.weights.length) ⟨0,rfl,Nat.zero_le _,_,pr⟩
 rintro n aa w ⟨j,rfl,hj,mm,pr⟩
 have hdj:=hdn j;have hlj:=hln j;rcases(by omega:j=S.weights.length∨j<S.weights.length)with rfl|hlt
 ·generalize mZ S e S.weights.length=dn at *
  generalize nN S e S.weights.length=ls at *;obtain⟨m,hm⟩:∃m:Nat,ls.length=m:=⟨_,rfl⟩
  rw[hm]at pr hlj kk;refine rx.go (ev1 _ [(S.bG.length:Int),e,(S.weights.length:Int),(m:Int)] [.I S.aB,.I S.aD,.I S.done,.I x.now,.bool x.closed] (sT S [bU x.bM,aA x.eJ,bQ x.aF,aA x.bD,aA x.down,cN x.ahead,aA dn,dQ ls]) (.d (aE hat) .nil)) (xK kn) pr ?_
  exact kk
 ·have hp:x.bD[(j:Int).toNat]?=some (x.bD.getD j 0):=getD_some (by omega)
  have hpb:=prb _ (eL (d:=0) (k:=j) (l:=x.bD) (by omega))
  have ho:(mZ S e j)[(j:Int).toNat]?=some (S.down e j):=by
   rw[←ae7 S e j];exact getD_some (by omega)
  have hob:0≤S.down e j∧S.down e j≤288230376151711744:=by
   unfold bL.down;rw[←hx];exact db _ (eL (by omega))
  have hprice:S.wJ e j=x.bD.getD j 0:=by unfold bL.wJ;rw[hx]
  have nx:∀mm w a,@gZ dI dN A w0 a0 mm w a (mF (.i e) (oL (nN S e (j+1)).length) (.i (1+(j:Int)))) (eS (mB S e x (mZ S e (j+1))++[lB (nN S e (j+1))]))→∃n',n'<S.weights.length-j∧∃(j':Nat),n'=S.weights.length-j'∧j'≤S.weights.length∧∃mm,@gZ dI dN A w0 a0 mm w a (mF (.i e) (oL (nN S e j').length) (.i (j':Int))) (eS (mB S e x (mZ S e j')++[lB (nN S e j')])):=by
   intro mm w a pr;rw[show(1+(j:Int))=((j+1:Nat):Int)by omega]at pr
   exact⟨_,by omega,j+1,rfl,by omega,mm,pr⟩
  simp only[nN,mZ,hprice]at nx;have Xj:Ix S e (j:Int):=⟨X.e0,X.e1,by omega,by omega⟩
  have hW:=EZ h Xj;have hT:∀p,jY p→Ck 126 [.i (cE S e (j:Int)).1.v,.i (cE S e (j:Int)).1.q,.i p] (.i (tS (cE S e (j:Int)).1.v (cE S e (j:Int)).1.q p)):=fun p hp=>by
   have w1:=FH [vs ((S.aJ e).bS (2*(j:Int))).bH,vs ((S.aJ e).bS (2*(j:Int)+1)).bH]
   have w2:=FH [qs ((S.aJ e).bS (2*(j:Int))).bH,qs ((S.aJ e).bS (2*(j:Int)+1)).bH]
   unfold pB at w1 w2;exact Pm (by unfold cE;exact⟨by dsimp only;omega,by dsimp only;omega⟩) (by unfold cE;exact⟨by dsimp only;omega,by dsimp only;omega⟩) hp
  have htb:=NY S e j;have hti:TH S e j=tS (cE S e (j:Int)).1.v (cE S e (j:Int)).1.q (x.bD.getD j 0):=by unfold TH;rw[hprice]
  rw[hti]at htb nx;generalize x.bD.getD j 0=p at *;have hT:=hT p ⟨by omega,by omega⟩
  generalize cE S e (j:Int)=W at *
  obtain⟨⟨wq,wv,wp⟩,wb⟩:=W
  dsimp only at hW hT htb nx
  generalize tS wv wq p=d at *;generalize S.down e j=o at *;generalize mZ S e j=dn at *;generalize nN S e j=ls at *;obtain⟨m,hm⟩:∃m:Nat,ls.length=m:=⟨_,rfl⟩
  rw[hm]at pr hlj;by_cases h0:0≤p
  ·rw[if_pos h0,if_pos h0]at nx
   have al:(ls++([⟨10,d-o⟩,⟨11,-d+o⟩]:List dO)).length=m+2:=by simp[hm]
   have m2:(2+(m:Int)).toNat=m+2:=by omega
   have hneg:-(d-o)=-d+o:=by omega
   rw[hneg,al]at nx;refine ry.go (ev1 _ [(S.bG.length:Int),e,(S.weights.length:Int),(m:Int),(j:Int),p,d,o] [.I S.aB,.I S.aD,.I S.done,.I x.now,.bool x.closed,.I wq,.I wv,.I wp] (sT S [bU x.bM,aA x.eJ,bQ x.aF,aA x.bD,aA x.down,cN x.ahead,aA dn,dQ ls]) (.d (aE hat) (.d (aI hp) (.d (aI ho) .nil)))) (xK (kc hW (kc hT kn))) pr (fd:=mF (.i e) (oL (2+(m:Int)).toNat) (.i (1+(j:Int)))) (bd:=(mB S e x []).take 8++[.cells 3 1 ((aA dn).set (j:Int).toNat [.i d]),.cells 44 2 (dQ ls++[[.i 10,.i (d-o)],[.i 11,.i (-d+o)]])]) ?_
   intro mm w a pr;rw[m2]at pr;refine nx mm w a ?_
   change @gZ dI dN A w0 a0 mm w a _ (eS ((mB S e x []).take 8++[.cells 3 1 (aA (dn.set j d)),.cells 44 2 (dQ (ls++([⟨10,d-o⟩,⟨11,-d+o⟩]:List dO)))]))
   rw[show aA (dn.set j d)=(aA dn).set (j:Int).toNat [.i d]by simp[aA,List.map_set],show dQ (ls++([⟨10,d-o⟩,⟨11,-d+o⟩]:List dO))=dQ ls++[[.i 10,.i (d-o)],[.i 11,.i (-d+o)]]by simp[dQ];exact⟨rfl,rfl⟩]
   exact pr
  ·rw[if_neg h0,if_neg h0,List.append_nil,hm]at nx
   refine rn.go (ev1 _ [(S.bG.length:Int),e,(S.weights.length:Int),(m:Int),(j:Int),p] [.I S.aB,.I S.aD,.I S.done,.I x.now,.bool x.closed] (sT S [bU x.bM,aA x.eJ,bQ x.aF,aA x.bD,aA x.down,cN x.ahead,aA dn,dQ ls]) (.d (aE hat) (.d (aI hp) .nil))) (xK kn) pr (fd:=mF (.i e) (oL m) (.i (1+(j:Int)))) (bd:=mB S e x dn++[lB ls]) ?_
   exact nx
theorem walk (oA:Option (RT Out)) (rA:aiV body oA) (rn:Xe (bE oA)) (ry:Ou (bE oA)) (rx:aeq (bE oA)) (ro:aa2 oA) (re:RD oA) (G:Gn S) (X:Ix S e 0) :
  Ck 63 [S.av,.i e] (.bB [(sE S e).1.av,.i (sE S e).2]):=by
 have h:=G.toStOk;have hn:=h.hn;have hw:=h.hw;have:=X.e0;have:=X.e1;have:=X.i1
 have E:=h.CJ X;have hat:=h.at_ X;have K:=abu h X (AL S e S.weights.length) (aa9 E.db _)
 have hI:=sX (ahw (S:=S) (e:=e) E.db S.weights.length)
 have hln:=RX S e S.weights.length;have hq:=dA K.ok (K.ix X) (l:=nN S e S.weights.length) hI (by omega)
 obtain⟨k1,e1,-⟩:=dY K.ok (K.ix X) (nN S e S.weights.length)
 have hdl:(mZ S e S.weights.length).length=S.weights.length:=by rw[AL];exact E.dl
 refine CK.gY Tryz.func63 (c:=body) (by kernel_rfl) (Fh.out) (yC.out) fun A w0 a0=>?_
 generalize hR:AV.bB [(sE S e).1.av,.i (sE S e).2]=R
 unfold sE at hR;obtain⟨x,hx⟩:∃x,x=S.aJ e:=⟨_,rfl⟩
 have hat:S.bG[e.toNat]?=some ⟨⟨x.now,x.closed,x.bM,x.eJ,x.aF,x.bD,x.down⟩,x.ahead⟩:=by rw[hx];exact hat
 have pl:=E.pl;have bl:=E.bl;have rl:=E.rl;have prl:=E.pr;have dl:=E.dl
 rw[←hx]at pl bl rl prl dl;intro mm w aa pr;rw[Tryz.ntmps63]at pr;refine rA.go (ev1 _ [(S.bG.length:Int),e,(S.weights.length:Int)] [.I S.aB,.I S.aD,.I S.done,.I x.now,.bool x.closed] (sT S [bU x.bM,aA x.eJ,bQ x.aF,aA x.bD,aA x.down,cN x.ahead]) (.d (aE hat) .nil)) (xK kn) pr (fd:=mF (.i e) (oL 0) (.i 0)) (bd:=mB S e x x.down++[lB []]) ?_
 intro mm w aa pr;have pr:@gZ dI dN A w0 a0 mm w aa (mF (.i e) (oL 0) (.i 0)) (eS (mB S e x (mZ S e 0)++[lB (nN S e 0)])):=by unfold mZ nN;rw[←hx];exact pr
 refine loop oA rn ry rx G X hx pr ?_
 intro mm w aa pr;have e0:(S.bT e ((S.aJ e).Ah (mZ S e S.weights.length))).av=S.setRow e [.i x.now,.c (.bool x.closed),.lit 4 (bU x.bM),.lit 1 (aA x.eJ),.lit 11 (bQ x.aF),.lit 1 (aA x.bD),.lit 1 (aA (mZ S e S.weights.length)),.lit 8 (cN x.ahead)]:=by
  rw[bL.mA,←hx];rfl
 rw[e0]at hq;obtain⟨E2,hE2⟩:=(K.trans k1).ex
 generalize S.bT e ((S.aJ e).Ah (mZ S e S.weights.length))=S0 at *
 generalize mZ S e S.weights.length=dn at *;generalize nN S e S.weights.length=ls at *;obtain⟨m,hm⟩:∃m:Nat,ls.length=m:=⟨_,rfl⟩
 rw[hm]at pr;generalize dH S0 e ls=r at *;obtain⟨S1,f⟩:=r;dsimp only at *
 subst hE2;by_cases h0:f=0
 ·subst h0
  rw[if_neg (by simp)]at hR
  subst hR;exact ro.go (ev1 _ [(S.bG.length:Int),e,(S.weights.length:Int),(m:Int)] [.I S.aB,.I S.aD,.I S.done,.I x.now,.bool x.closed] (sT S [bU x.bM,aA x.eJ,bQ x.aF,aA x.bD,aA x.down,cN x.ahead,aA dn,dQ ls,aN E2]) (.d (aE hat) .nil)) (xK (kc hq kn)) pr
 ·rw[if_pos h0]at hR
  subst hR;have f2:1≤f∧f≤20:=by unfold fF at e1;omega
  exact re.go (ev1 _ [(S.bG.length:Int),e,(S.weights.length:Int),(m:Int),f] [.I S.aB,.I S.aD,.I S.done,.I x.now,.bool x.closed] (sT S [bU x.bM,aA x.eJ,bQ x.aF,aA x.bD,aA x.down,cN x.ahead,aA dn,dQ ls,aN E2]) (.d (aE hat) .nil)) (xK (kc hq kn)) pr
end
end MK
theorem X6 {S:bL} {e:Int} (G:Gn S) (X:Ix S e 0):Ck 63 [S.av,.i e] (.bB [(sE S e).1.av,.i (sE S e).2]) :=
 MK.walk MK.IA MK.alz MK.ajD MK.agF MK.aly MK.agG MK.adv G X
end
section
open Mc
set_option maxRecDepth 1000000
def bL.es (S:bL) (E:List dR) (c:List pZ):bL:={ S with bG:=E,aM:=c }
theorem Sv.es {S T:bL} (h:Sv S T):T=S.es T.bG T.aM:=by
 obtain⟨-,-,-,h1,h2,h3,h4,h5,h6,h7,h8⟩:=h;cases T;cases S;simp only[bL.es]at *
 subst h1 h2 h3 h4 h5 h6 h7 h8;rfl
namespace CL
abbrev SK (e i:AV):List AV:=fr 99 [(1,e),(2,.ptr 10 0 0 0),(4,.ptr 10 1 0 0),(5,.i 0),(6,.ptr 10 2 0 0),(7,i)]
abbrev Mh (e i k:AV):List AV:=fr 99 [(1,e),(2,.ptr 10 0 0 0),(4,.ptr 10 1 0 0),(5,.i 0),(6,.ptr 10 2 0 0),(7,i),(8,k)]
abbrev sB (S:bL):Mc.bX:=.cells 31 10 [[.i S.aB,.i S.aD,.lit 1 (aA S.weights),.lit 1 (aO S.methods),.lit 1 (aO S.cP),.lit 8 (aN S.bG),.lit 8 (gH S.aH),.lit 9 (cR S.aM),.lit 6 (gG S.bK),.i S.done]]
abbrev cB (S T:bL):List Mc.bX:=[sB S,.cells 31 10 V9,sB T]
noncomputable def body:Code:=(Tryz.f30).body.getD .skip
abbrev ai1 (c:Code) (r:Option (RT Out)):Prop:=CG { vars:=Kcc,facts:=KaJ,lens:=Kas,hH:=Q1 } c (KaD++List.replicate 97 .undef) [] [some 0,some 1,some 2] (SK (.v 1) (.i 0)) [ZG,Ux,ZG] r
noncomputable def ID:Option (RT Out):=Tz { vars:=Kcc,facts:=KaJ,lens:=Kas,hH:=Q1 } body (KaD++List.replicate 97 .undef:List AV).length (KaD++List.replicate 97 .undef) [] 0
theorem alQ:ai1 body ID:=⟨rfl,by decide +kernel,by decide +kernel⟩
abbrev aiY (c:Code):Prop:=ak1 { vars:=Kcc,facts:=KaJ,lens:=Kas,hH:=[ZB] } Tryz.f30 c (KaD++List.replicate 97 .undef) [] Dl
theorem alN:aiY body:=⟨_,rfl,by decide +kernel,by decide +kernel,by kernel_rfl⟩
abbrev ai0 (c:Code) (r:Option (RT Out)):Prop:=CG { vars:=KaZ,facts:=WG,lens:=Kas } c (SK (.v 1) (.v 3)) Kt [some 0,some 1,some 2] (Mh (.v 1) (.v 3) (.i 0)) Kt r
noncomputable def EM:Option (RT Out):=Tz { vars:=KaZ,facts:=WG,lens:=Kas } (bE ID) (SK (.v 1) (.v 3):List AV).length (SK (.v 1) (.v 3)) Kt 3
theorem alP:ai0 (bE ID) EM:=⟨rfl,by decide +kernel,by decide +kernel⟩
abbrev Xl (c:Code):Prop:=gN { vars:=[(0,4),(0,3),(1,5),(0,4),(0,1)],facts:=WG,lens:=Vr,hH:=HB,bN:=[(62,Ze,(.bB [Ud,.i 0]))] } c (Mh (.v 1) (.v 3) (.v 4)) Kt 0 [some 0,some 1,some 2] (Mh (.v 1) (.v 3) KbP) [ZG,Ux,(.cells 31 10 [UD])]
theorem ajZ:Xl (bE EM):=⟨_,rfl,by decide +kernel,by decide +kernel⟩
abbrev OB (c:Code):Prop:=Ts { vars:=[(0,4),(0,3),(1,5),(0,4),(0,1),(1,20)],facts:=WG,lens:=Vr,hH:=HB,bN:=[(62,Ze,(.bB [Ud,.v 5]))] } Tryz.f30 c (Mh (.v 1) (.v 3) (.v 4)) Kt Dm
theorem agT:OB (bE EM):=⟨_,rfl,by decide +kernel,by decide +kernel,by kernel_rfl⟩
abbrev Xm (c:Code):Prop:=gN { vars:=[(0,4),(0,3),(1,5),(0,4),(1,2)],facts:=WG,lens:=Vr,hH:=HC } c (Mh (.v 1) (.v 3) (.i 0)) Kt 5 [some 0,some 1,some 2] (Mh (.v 1) (.v 3) (.i 0)) Kt
theorem aj0:Xm (bE EM):=⟨_,rfl,by decide +kernel,by decide +kernel⟩
abbrev Xn (c:Code):Prop:=gN { vars:=[(0,4),(0,3),(1,5),(0,4),(4,4)],facts:=WG,lens:=Vr,hH:=HC } c (Mh (.v 1) (.v 3) (.i 0)) Kt 5 [some 0,some 1,some 2] (Mh (.v 1) (.v 3) (.i 0)) Kt
theorem aj1:Xn (bE EM):=⟨_,rfl,by decide +kernel,by decide +kernel⟩
abbrev OA (c:Code):Prop:=gN { vars:=KaZ,facts:=WG,lens:=Kas } c (Mh (.v 1) (.v 3) (.i 2)) Kt 5 [some 0,some 1,some 2] (Mh (.v 1) (.v 3) (.i 2)) Kt
theorem agS:OA (bE EM):=⟨_,rfl,by decide +kernel,by decide +kernel⟩
abbrev Xo (o:Option (RT Out)):Prop:=agl { vars:=KaZ,facts:=WG,lens:=Kas } o 3 (Mh (.v 1) (.v 3) (.o 3)) Kt 0 [some 0,some 1,some 2] (SK (.v 1) KbR) Kt
theorem aj2:Xo EM:=⟨_,rfl,by decide +kernel,by decide +kernel⟩
abbrev aiZ (c:Code):Prop:=gN { vars:=Kcc,facts:=KaJ,lens:=Kas } c (SK (.v 1) (.v 2)) Kt 3 [some 0,some 1,some 2] (SK (.v 1) (.v 2)) Kt
theorem alO:aiZ (bE ID):=⟨_,rfl,by decide +kernel,by decide +kernel⟩
abbrev RF (o:Option (RT Out)):Prop:=mI { vars:=[(0,4),(0,3),(1,5),(1,20)],facts:=KaJ,lens:=Kas,bN:=[(63,Z3,(.bB [Un,.v 3]))] } Tryz.f30 o 1 (SK (.v 1) (.v 2)) Kt ((.bB [Kb1,.v 3]))
theorem adz:RF ID:=⟨_,rfl,by decide +kernel,by decide +kernel,by kernel_rfl⟩
abbrev aa3 (o:Option (RT Out)):Prop:=mI { vars:=Kcc,facts:=KaJ,lens:=[(0,[([0],1)]),(1,[([2],1)]),(9,[([0],1)]),(15,[([2],2)]),(16,[([],17)]),(17,[([2],1)]),(18,[([2],1)]),(19,[([2],1)])],hH:=[(0,[([1],1)],Yh),(9,[([1],1)],[.o 4,.o 5,.q 4 15,.q 1 16,.q 11 17,.q 1 18,.q 1 19,.q 8 20])],bN:=[(63,Z3,(.bB [Un,.i 0]))] } Tryz.f30 o 1 (SK (.v 1) (.v 2)) Kt ((.bB [(.agg [.o 0,.o 1,.q 1 1,.q 1 2,.q 1 3,(.seq 8 9 [([([1],1)],[.o 4,Kcm,.q 4 15,.q 1 16,.q 11 17,.q 1 18,.q 1 19,(.lit 8 [Yh])])] []),.q 8 4,.q 9 8,.q 6 6,.o 2]),.i 0]))
theorem agU:aa3 ID:=⟨_,rfl,by decide +kernel,by decide +kernel,by kernel_rfl⟩
noncomputable abbrev fC:Func:=Tryz.f30
section
variable {S:bL} {e:Int} {A:Nat→Prop} {w0:World} {a0:Act} {R:AV}
theorem inner (oI:Option (RT Out)) (ro:Xl (bE oI)) (re:OB (bE oI)) (rl:Xm (bE oI)) (rh:Xn (bE oI)) (rt:OA (bE oI)) (rI:Xo oI)
  (G:Gn S) {T:bL} (V:Sv S T) (he:0≤e∧e<S.bG.length) {j:Nat} (hj:j<S.weights.length) {Φ:nA} (hΦ:∀a w,Fin Tryz.prog fC A w0 a0 R .ret a w→Φ .ret a w)
  {mm:Nat→St} {w:World} {aa:Act} (pr:@gZ dI dN A w0 a0 mm w aa (Mh (.i e) (.i (j:Int)) (.i 0)) (eS (cB S T)))
  (hbad:∀f,S.cG e (j:Int)=3→(jR T e (j:Int)).2=f→f≠0→R=.bB [S.av,.i f])
  (kk:∀U,Sv S U→(S.cG e (j:Int)=3→jR T e (j:Int)=(U,0))→(S.cG e (j:Int)≠3→U=T)→∀mm w aa,@gZ dI dN A w0 a0 mm w aa (SK (.i e) (.i (1+(j:Int)))) (eS (cB S U))→Φ .normal aa w) :
  (Code.loop (bE oI)).wpIn (fw none) 9 Tryz.prog (KS Tryz.prog (oK oI) Φ) aa w:=by
 have h:=G.toStOk;have hn:=h.hn;have hw:=h.hw
 have X:Ix S e (j:Int):=⟨he.1,he.2,by omega,by omega⟩
 have hmb:=h.mb' X;have hel:e.toNat<S.methods.length:=by rw[h.Fq];omega
 have rJ:S.methods[e.toNat]?=some (S.methods.getD e.toNat []):=getD_some hel
 have Fs:=h.Fs _ (eL (d:=[]) hel)
 have hm:(S.methods.getD e.toNat [])[(j:Int).toNat]?=some (S.cG e (j:Int)):=getD_some (by omega)
 have Fq:=h.Fq;obtain⟨ms,hmse⟩:∃ms,ms=S.methods.getD e.toNat []:=⟨_,rfl⟩
 rw[←hmse]at rJ Fs hm;refine fQ (fun n a' w=>∃(k:Nat) (U:bL),n=2-k∧k≤2∧Sv S U∧(S.cG e (j:Int)≠3→k=0)∧(k=0→U=T)∧(k=1→iG T e (j:Int) 0=(U,0))∧(k=2→jR T e (j:Int)=(U,0))∧∃mm,@gZ dI dN A w0 a0 mm w a' (Mh (.i e) (.i (j:Int)) (.i (k:Int))) (eS (cB S U))) ?_ (n:=2) ⟨0,T,rfl,by omega,V,fun _=>rfl,fun _=>rfl,fun h=>(by cases h),fun h=>(by cases h),_,pr⟩
 clear pr;rintro n aa w ⟨k,U,rfl,hk,VU,k0,k1,k2,k3,mm,pr⟩
 have hes:=VU.es;have hle:U.bG.length=S.bG.length:=VU.le
 have hmS:=VU.cG e (j:Int)
 by_cases hm3:S.cG e (j:Int)=3
 ·rcases(by omega:k=2∨k<2)with rfl|hk2
  ·have fin:=kk U VU (fun _=>k3 rfl) (fun h=>absurd hm3 h)
   generalize U.bG=E1 at *;generalize U.aM=c1 at *;subst hes;refine rt.go (ev1 _ [(S.bG.length:Int),e,(S.weights.length:Int),(j:Int)] [.I S.aB,.I S.aD,.I S.done] (sT S [aN E1,cR c1]) .nil) (xK kn) pr (fd:=Mh (.i e) (.i (j:Int)) (.i 2)) (bd:=cB S (S.es E1 c1)) ?_
   intro mm w aa pr;obtain⟨k,hk0⟩:∃k:Int,k=2:=⟨_,rfl⟩
   have pr:@gZ dI dN A w0 a0 mm w aa (Mh (.i e) (.i (j:Int)) (.i k)) (eS (cB S (S.es E1 c1))):=by rw[hk0];exact pr
   refine rI.go (ev1 _ [(S.bG.length:Int),e,(S.weights.length:Int),(j:Int)] [.I S.aB,.I S.aD,.I S.done,.I k] (sT S [aN E1,cR c1]) .nil) (xK kn) pr (fd:=SK (.i e) (.i (1+(j:Int)))) (bd:=cB S (S.es E1 c1)) ?_
   exact fin
  ·have XU:=VU.ix X
   have h0:=Pj VU.gn XU (loc:=(k:Int)) (by omega) (by omega) (hmS.trans hm3)
   obtain⟨v1,e1,z1⟩:=CX VU.gn XU (loc:=(k:Int)) (by omega) (by omega) (hmS.trans hm3)
   have st:∀W f,iG U e (j:Int) (k:Int)=(W,f)→(f≠0→(jR T e (j:Int)).2=f)∧(f=0→(k=0→iG T e (j:Int) 0=(W,0))∧(k=1→jR T e (j:Int)=(W,0))):=by
    intro W f hW;rcases(by omega:k=0∨k=1)with rfl|rfl
    ·have:=k1 rfl
     subst this;have hW:iG U e (j:Int) 0=(W,f):=hW
     refine⟨fun hf=>?_,fun hf=>⟨fun _=>by rw[hW,hf],fun h=>(by cases h)⟩⟩
     unfold jR;rw[hW];dsimp only
     rw[if_pos hf]
    ·have q:=k2 rfl
     have hW:iG U e (j:Int) 1=(W,f):=hW
     refine⟨fun hf=>?_,fun hf=>⟨fun h=>(by cases h),fun _=>?_⟩⟩
     ·unfold jR
      rw[q];dsimp only
      rw[if_neg (by simp),hW]
      dsimp only
      rw[if_pos hf]
     ·unfold jR
      rw[q];dsimp only
      rw[if_neg (by simp),hW]
      dsimp only
      rw[if_neg (by simp[hf])]
   generalize iG U e (j:Int) (k:Int)=r at *
   obtain⟨W,f⟩:=r;obtain⟨s1,s2⟩:=st W f rfl;dsimp only at *
   have VW:=VU.trans v1;have hes2:=VW.es;generalize W.bG=E2 at *;generalize W.aM=c2 at *;generalize U.bG=E1 at *;generalize U.aM=c1 at *;subst hes;subst hes2;rw[hm3]at hm;by_cases hf:f=0
   ·subst hf
    refine ro.go (ev1 _ [(S.bG.length:Int),e,(S.weights.length:Int),(j:Int),k] [.I S.aB,.I S.aD,.I S.done] (sT S [aN E1,cR c1,aA ms,aN E2,cR c2]) (.d (aS rJ) (.d (aI hm) .nil))) (xK (kc h0 kn)) pr (fd:=Mh (.i e) (.i (j:Int)) (.i (1+(k:Int)))) (bd:=cB S (S.es E2 c2)) ?_
    intro mm w aa pr;rw[show(1+(k:Int))=((k+1:Nat):Int)by omega]at pr
    exact⟨_,by omega,k+1,S.es E2 c2,rfl,by omega,VW,fun h=>absurd hm3 h,fun h=>(by omega),fun h=>(s2 rfl).1 (by omega),fun h=>(s2 rfl).2 (by omega),mm,pr⟩
   ·rw[hbad f hm3 (s1 hf) hf]at hΦ
    have f2:1≤f∧f≤20:=by unfold fF at e1;omega
    exact re.go (ev1 _ [(S.bG.length:Int),e,(S.weights.length:Int),(j:Int),k,f] [.I S.aB,.I S.aD,.I S.done] (sT S [aN E1,cR c1,aA ms,aN E2,cR c2]) (.d (aS rJ) (.d (aI hm) .nil))) (xK (kc h0 kn)) pr fun a w h=>tN (hΦ a w h) _
 ·obtain rfl:k=0:=k0 hm3
  obtain rfl:U=T:=k1 rfl
  have fin:=kk U VU (fun h=>absurd h hm3) (fun _=>rfl)
  generalize U.bG=E1 at *;generalize U.aM=c1 at *;subst hes;generalize S.cG e (j:Int)=m at *
  have fin:∀mm w aa,@gZ dI dN A w0 a0 mm w aa (Mh (.i e) (.i (j:Int)) (.i 0)) (eS (cB S (S.es E1 c1)))→KS Tryz.prog (oK oI) Φ (AX.exit 3).to aa w:=by
   intro mm w aa pr;obtain⟨k,hk0⟩:∃k:Int,k=0:=⟨_,rfl⟩
   have pr:@gZ dI dN A w0 a0 mm w aa (Mh (.i e) (.i (j:Int)) (.i k)) (eS (cB S (S.es E1 c1))):=by rw[hk0];exact pr
   refine rI.go (ev1 _ [(S.bG.length:Int),e,(S.weights.length:Int),(j:Int)] [.I S.aB,.I S.aD,.I S.done,.I k] (sT S [aN E1,cR c1]) .nil) (xK kn) pr (fd:=SK (.i e) (.i (1+(j:Int)))) (bd:=cB S (S.es E1 c1)) ?_
   exact fin
  rcases(by omega:(1≤m∧m≤2)∨m=4)with h1|h1
  ·refine rl.go (ev1 _ [(S.bG.length:Int),e,(S.weights.length:Int),(j:Int),m] [.I S.aB,.I S.aD,.I S.done] (sT S [aN E1,cR c1,aA ms]) (.d (aS rJ) (.d (aI hm) .nil))) (xK kn) pr (fd:=Mh (.i e) (.i (j:Int)) (.i 0)) (bd:=cB S (S.es E1 c1)) ?_
   exact fin
  ·refine rh.go (ev1 _ [(S.bG.length:Int),e,(S.weights.length:Int),(j:Int),m] [.I S.aB,.I S.aD,.I S.done] (sT S [aN E1,cR c1,aA ms]) (.d (aS rJ) (.d (aI hm) .nil))) (xK kn) pr (fd:=Mh (.i e) (.i (j:Int)) (.i 0)) (bd:=cB S (S.es E1 c1)) ?_
   exact fin
theorem walk (oA oI:Option (RT Out)) (rA:ai1 body oA) (rc:aiY body) (rS:ai0 (bE oA) oI) (ro:Xl (bE oI)) (re:OB (bE oI)) (rl:Xm (bE oI)) (rh:Xn (bE oI)) (rt:OA (bE oI)) (rI:Xo oI) (rx:aiZ (bE oA)) (rxe:RF oA) (rxo:aa3 oA)
  (G:Gn S) (hw1:1≤S.weights.length) (X:Ix S e 0) :
  Ck 30 [S.av,.i e] (.bB [(oZ S e).1.av,.i (oZ S e).2]):=by
 have h:=G.toStOk;have hn:=h.hn;have hw:=h.hw;have he0:=X.e0;have he1:=X.e1
 have hat0:=h.at_ X;obtain⟨x,hx⟩:∃x,x=S.aJ e:=⟨_,rfl⟩
 have hat:S.bG[e.toNat]?=some ⟨⟨x.now,x.closed,x.bM,x.eJ,x.aF,x.bD,x.down⟩,x.ahead⟩:=by rw[hx];exact hat0
 have al:=G.al x (by rw[hx];exact List.mem_of_getElem? hat0)
 refine CK.gY Tryz.func30 (c:=body) (by kernel_rfl) (Fh.out) (yC.out) fun A w0 a0=>?_
 generalize hR:AV.bB [(oZ S e).1.av,.i (oZ S e).2]=R
 have hL:∀r:bL×Int,oZ S e=r→R=.bB [r.1.av,.i r.2]:=fun r hr=>by rw[←hR,hr]
 clear hR;intro mm w aa pr;rw[Tryz.ntmps30]at pr;by_cases hc:x.closed=true
 ·rw[hc]at hat
  rw[hL (S,7) (by unfold oZ;rw[←hx,if_pos hc])]
  exact rc.go (ev1 _ [(S.bG.length:Int),e,(S.weights.length:Int)] [.I S.aB,.I S.aD,.I S.done,.I x.now] (sT S [bU x.bM,aA x.eJ,bQ x.aF,aA x.bD,aA x.down,cN x.ahead]) (.d (aE hat) .nil)) (xK kn) pr
 have hc':x.closed=false:=by simpa using hc
 have hah:x.ahead=[]:=by
  have h1:=al.1;rw[show x.sh.2.1=x.closed from rfl,hc']at h1
  exact List.length_eq_zero_iff.1 h1
 rw[hc',hah]at hat;have hL:∀r:bL×Int,(match kH e S.weights.length 0 S with
  |(T,f)=>if f≠0 then(S,f)else match sE T e with|(U,f)=>if f≠0 then(S,f)else(U.bT e ((U.aJ e).shut x.toEntC),0))=r→R=.bB [r.1.av,.i r.2]:=fun r hr=>hL r (by unfold oZ;rw[←hx,if_neg hc];exact hr)
 refine rA.go (ev1 _ [(S.bG.length:Int),e,(S.weights.length:Int)] [.I S.aB,.I S.aD,.I S.done,.I x.now] (sT S [bU x.bM,aA x.eJ,bQ x.aF,aA x.bD,aA x.down]) (.d (aE hat) .nil)) (xK kn) pr (fd:=SK (.i e) (.i 0)) (bd:=cB S S) ?_
 intro mm w aa pr;refine fQ (fun n a' w=>∃(j:Nat) (T:bL),n=S.weights.length-j∧j≤S.weights.length∧Sv S T∧kH e S.weights.length 0 S=kH e (S.weights.length-j) j T∧∃mm,@gZ dI dN A w0 a0 mm w a' (SK (.i e) (.i (j:Int))) (eS (cB S T))) ?_ (n:=S.weights.length) ⟨0,S,rfl,Nat.zero_le _,.refl G,rfl,_,pr⟩
 rintro n aa w ⟨j,T,rfl,hj,V,hA,mm,pr⟩
 have hes:=V.es;rcases(by omega:j=S.weights.length∨j<S.weights.length)with rfl|hlt
 ·rw[Nat.sub_self]at hA
  have hA:kH e S.weights.length 0 S=(T,0):=hA
  rw[hA]at hL;dsimp only at hL
  rw[if_neg (by simp)]at hL
  have XT:=V.ix X;have hM:=X6 V.gn XT;obtain⟨k1,e1⟩:=aba V.gn XT;have Eok:=(k1.gn V.gn).toStOk.CJ (k1.ix XT)
  have haty0:=(k1.gn V.gn).toStOk.at_ (k1.ix XT)
  generalize sE T e=r at *;obtain⟨U,f⟩:=r;dsimp only at *
  obtain⟨E2,rfl⟩:=k1.ex;have hle2:E2.length=S.bG.length:=by have:=k1.len;have:=V.le;exact k1.len.trans V.le
  generalize T.bG=E1 at *;generalize T.aM=c1 at *;subst hes;obtain⟨y,hy⟩:∃y,y=((S.es E1 c1).aZ E2).aJ e:=⟨_,rfl⟩
  rw[←hy]at Eok haty0 hL;have haty:E2[e.toNat]?=some ⟨⟨y.now,y.closed,y.bM,y.eJ,y.aF,y.bD,y.down⟩,y.ahead⟩:=haty0
  have pl:y.bM.length=2*S.weights.length:=Eok.pl
  have bl:=Eok.bl;have rl':y.aF.length=S.weights.length:=Eok.rl
  have prl:y.bD.length=S.weights.length:=Eok.pr
  have dl:y.down.length=S.weights.length:=Eok.dl
  refine rx.go (ev1 _ [(S.bG.length:Int),e,(S.weights.length:Int)] [.I S.aB,.I S.aD,.I S.done] (sT S [aN E1,cR c1]) .nil) (xK kn) pr (fd:=SK (.i e) (.i (S.weights.length:Int))) (bd:=cB S (S.es E1 c1)) ?_
  intro mm w aa pr;by_cases h0:f=0
  ·subst h0
   rw[if_neg (by simp)]at hL
   rw[hL _ rfl];have hav:(((S.es E1 c1).aZ E2).bT e (y.shut x.toEntC)).av=((S.es E1 c1).aZ E2).setRow e [.i y.now,.c (.bool true),.lit 4 (bU y.bM),.lit 1 (aA y.eJ),.lit 11 (bQ y.aF),.lit 1 (aA y.bD),.lit 1 (aA y.down),.lit 8 [[.i x.now,.c (.bool false),.lit 4 (bU x.bM),.lit 1 (aA x.eJ),.lit 11 (bQ x.aF),.lit 1 (aA x.bD),.lit 1 (aA x.down),.lit 8 []]]]:=by
    rw[bL.mA,←hc'];rfl
   dsimp only
   rw[hav];exact rxo.go (ev1 _ [(S.bG.length:Int),e,(S.weights.length:Int)] [.I S.aB,.I S.aD,.I S.done,.I x.now,.I y.now,.bool y.closed] (sT S [aN E1,cR c1,aN E2,bU x.bM,aA x.eJ,bQ x.aF,aA x.bD,aA x.down,bU y.bM,aA y.eJ,bQ y.aF,aA y.bD,aA y.down,cN y.ahead]) (.d (aE hat) (.d (aE haty) .nil))) (xK (kc hM kn)) pr
  ·rw[if_pos h0]at hL
   rw[hL _ rfl];have f2:1≤f∧f≤20:=by unfold fF at e1;omega
   exact rxe.go (ev1 _ [(S.bG.length:Int),e,(S.weights.length:Int),f] [.I S.aB,.I S.aD,.I S.done] (sT S [aN E1,cR c1,aN E2]) .nil) (xK (kc hM kn)) pr
 ·have hA2:kH e (S.weights.length-j) j T=if T.cG e (j:Int)=3 then(match jR T e (j:Int)with|(U,f)=>if f≠0 then(T,f)else kH e (S.weights.length-(j+1)) (j+1) U)else kH e (S.weights.length-(j+1)) (j+1) T:=by
   obtain⟨k,hk⟩:∃k,S.weights.length-j=k+1:=⟨S.weights.length-j-1,by omega⟩
   rw[hk,show S.weights.length-(j+1)=k by omega]
   rfl
  rw[hA2,V.cG]at hA;have V0:=V;have nx:∀U,Sv S U→kH e S.weights.length 0 S=kH e (S.weights.length-(j+1)) (j+1) U→∀mm w aa,@gZ dI dN A w0 a0 mm w aa (SK (.i e) (.i (1+(j:Int)))) (eS (cB S U))→∃n',n'<S.weights.length-j∧∃(j':Nat) (T':bL),n'=S.weights.length-j'∧j'≤S.weights.length∧Sv S T'∧kH e S.weights.length 0 S=kH e (S.weights.length-j') j' T'∧∃mm,@gZ dI dN A w0 a0 mm w aa (SK (.i e) (.i (j':Int))) (eS (cB S T')):=by
   intro U VU hU mm w aa pr;rw[show(1+(j:Int))=((j+1:Nat):Int)by omega]at pr
   exact⟨_,by omega,j+1,U,rfl,by omega,VU,hU,mm,pr⟩
  have hpr:∀Φ:nA,(∀mm w aa,@gZ dI dN A w0 a0 mm w aa (Mh (.i e) (.i (j:Int)) (.i 0)) (eS (cB S T))→(Code.loop (bE oI)).wpIn (fw none) 9 Tryz.prog (KS Tryz.prog (oK oI) Φ) aa w)→(bE oA).wpIn (fw none) 9 Tryz.prog Φ aa w:=by
   intro Φ kk;generalize T.bG=E1 at *;generalize T.aM=c1 at *;subst hes;refine rS.go (ev1 _ [(S.bG.length:Int),e,(S.weights.length:Int),(j:Int)] [.I S.aB,.I S.aD,.I S.done] (sT S [aN E1,cR c1]) .nil) (xK kn) pr (fd:=Mh (.i e) (.i (j:Int)) (.i 0)) (bd:=cB S (S.es E1 c1)) ?_
   exact kk
  refine hpr _ ?_
  intro mm w aa pr;refine inner (R:=R) oI ro re rl rh rt rI G V ⟨he0,he1⟩ hlt ?_ pr ?_ ?_
  ·intro a w h
   exact tN h _
  ·intro f hm hf hf0
   refine hL (S,f) ?_
   rw[hA,if_pos hm];generalize jR T e (j:Int)=r at *
   obtain⟨U,g⟩:=r;dsimp only at hf ⊢
   subst hf;rw[if_pos hf0];dsimp only
   rw[if_pos hf0]
  ·intro U VU h3 hn3 mm w aa pr
   refine nx U VU ?_ mm w aa pr
   rw[hA];by_cases hm:S.cG e (j:Int)=3
   ·rw[if_pos hm,h3 hm]
    dsimp only
    rw[if_neg (by simp)]
   ·rw[if_neg hm,hn3 hm]
end
end CL
theorem SM {S:bL} {e:Int} (G:Gn S) (hw1:1≤S.weights.length) (X:Ix S e 0):Ck 30 [S.av,.i e] (.bB [(oZ S e).1.av,.i (oZ S e).2]) :=
 CL.walk CL.ID CL.EM CL.alQ CL.alN CL.alP CL.ajZ CL.agT CL.aj0 CL.aj1 CL.agS CL.aj2 CL.alO CL.adz CL.agU G hw1 X
end
section
open Mc
inductive FA
 |Ax (e item loc q a:Int)
 |AT (q a ref:Int)
 |vY (q ref:Int)
 |adO (e item loc q a:Int)
 |take (q a ref:Int)
 |P9 (e item loc q:Int)
 |count (e item loc q:Int)
 |move (e item loc dst q:Int)
 |Ar (e item a:Int)
 |wJ (e item a:Int)
 |land (dst a:Int) (refs:List Int)
 |adL (e item loc dst q a:Int)
 |LX (loc q ref:Int)
 |close (e:Int)
 |IJ (e:Int)
 |next (e:Int)
def FA.av:FA→AV
 | .Ax e item loc q a=>dC 1 e item loc 0 q a 0
 | .AT q a ref=>dC 2 0 0 0 0 q a ref
 | .vY q ref=>dC 3 0 0 0 0 q 0 ref
 | .adO e item loc q a=>dC 4 e item loc 0 q a 0
 | .take q a ref=>dC 5 0 0 0 0 q a ref
 | .P9 e item loc q=>dC 6 e item loc 0 q 0 0
 | .count e item loc q=>dC 7 e item loc 0 q 0 0
 | .move e item loc dst q=>dC 8 e item loc dst q 0 0
 | .Ar e item a=>dC 9 e item 0 0 0 a 0
 | .wJ e item a=>dC 10 e item 0 0 0 a 0
 | .land dst a refs=>qM dst a refs
 | .adL e item loc dst q a=>dC 12 e item loc dst q a 0
 | .LX loc q ref=>dC 13 0 0 loc 0 q 0 ref
 | .close e=>dC 14 e 0 0 0 0 0 0
 | .IJ e=>dC 15 e 0 0 0 0 0 0
 | .next e=>dC 16 e 0 0 0 0 0 0
abbrev QB (q:Int):Prop:=1≤q∧q≤1073741824
abbrev AB (a:Int):Prop:=0≤a∧a≤1073741824
abbrev LB (l:Int):Prop:=0≤l∧l≤1
abbrev RB (r:Int):Prop:=0≤r∧r≤39
abbrev EB (n:Nat) (e:Int):Prop:=0≤e∧e<(n:Int)
def cL (n w:Nat):FA→Prop
 | .Ax e item loc q a=>EB n e∧EB w item∧LB loc∧QB q∧AB a
 | .AT q a ref=>QB q∧AB a∧RB ref
 | .vY q ref=>QB q∧RB ref
 | .adO e item loc q a=>EB n e∧EB w item∧LB loc∧QB q∧AB a
 | .take q a ref=>QB q∧AB a∧RB ref
 | .P9 e item loc q=>EB n e∧EB w item∧LB loc∧QB q
 | .count e item loc q=>EB n e∧EB w item∧LB loc∧0≤q∧q≤1073741824
 | .move e item loc dst q=>EB n e∧EB w item∧LB loc∧LB dst∧dst≠loc∧QB q
 | .Ar e item a=>EB n e∧EB w item∧AB a
 | .wJ e item a=>EB n e∧EB w item∧AB a
 | .land dst a refs=>(0≤dst∧dst≤2)∧AB a∧((∃r0,refs=[r0]∧RB r0)∨(∃r0 r1,refs=[r0,r1]∧RB r0∧RB r1∧r1≠r0)∨(∃r0 r1 r2,refs=[r0,r1,r2]∧RB r0∧RB r1∧RB r2∧r0<r1∧r1<r2))
 | .adL e item loc dst q a=>EB n e∧EB w item∧LB loc∧EB n dst∧dst≠e∧QB q∧AB a
 | .LX loc q ref=>LB loc∧QB q∧RB ref
 | .close e=>EB n e
 | .IJ e=>EB n e
 | .next e=>EB n e
def doS (S:bL):FA→bL×Int
 | .Ax e item loc q a=>wE S e item loc q a
 | .AT q a ref=>afn S ref q a
 | .vY q ref=>sbS S ref q
 | .adO e item loc q a=>P7 S e item loc q a
 | .take q a ref=>PQ S ref q a
 | .P9 e item loc q=>Iw S e item loc q
 | .count e item loc q=>LH S e item loc q
 | .move e item loc dst q=>RV S e item loc dst q
 | .Ar e item a=>wC S e item a
 | .wJ e item a=>IU S e item a
 | .land dst a refs=>vL S dst a refs
 | .adL e item loc dst q a=>P4 S e item loc dst q a
 | .LX loc q ref=>Cs S loc q ref
 | .close e=>oZ S e
 | .IJ e=>xM S e
 | .next e=>Ns S e
def pD (S:bL) (o:FA):bL×Int:=dM S (doS S o)
structure Stp (S T:bL):Prop where
 gn:Gn T
 le:T.bG.length=S.bG.length
 wt:T.weights=S.weights
 pe:T.aD=S.aD
 en:T.aB=S.aB
 me:T.methods=S.methods
 dn:T.done≤S.done+1
theorem Stp.refl {S:bL} (G:Gn S):Stp S S:=⟨G,rfl,rfl,rfl,rfl,rfl,by omega⟩
theorem mY.stp {S:bL} {r:bL×Int} (G:Gn S) (h:mY S r):Stp S (dM S r).1:=by
 obtain⟨g,e,no,le,wt,pe,en,me,dn⟩:=h;obtain⟨T,f⟩:=r;dsimp only at *
 unfold dM;split
 ·refine⟨⟨⟨g.hn,g.hw,g.Fq,g.Aa,g.Fs,g.nP,g.mb,g.cb,g.aJ,g.ahead⟩,g.IM,g.MY,g.TF,g.FM,g.Mf,g.trb,?_,g.al,g.pb⟩,le,wt,pe,en,me,?_⟩
  ·show 0≤1+T.done
   have:=g.d0;omega
  ·show 1+T.done≤_
   omega
 ·exact .refl G
theorem acz {S:bL} (G:Gn S) {e:Int} (x:Ix S e 0) (hp:S.aD≤12):mY S (Ns S e):=by
 unfold Ns;split
 ·exact .bad G ⟨by simp,by simp⟩
 ·split
  ·exact .bad G ⟨by simp,by simp⟩
  ·exact⟨ahu G x (by omega),⟨by simp,by simp⟩,fun h=>absurd rfl h,by simp[bL.bT],rfl,rfl,rfl,rfl,rfl⟩
theorem Rf {S:bL} (G:Gn S) {e:Int} (x:Ix S e 0):mY S (xM S e):=by
 unfold xM;split
 ·exact .bad G ⟨by simp,by simp⟩
 ·split
  ·rename_i y hy
   exact⟨acd G x hy,⟨by simp,by simp⟩,fun h=>absurd rfl h,by show(S.bG.set _ _).length=_;simp,rfl,rfl,rfl,rfl,rfl⟩
  ·exact .bad G ⟨by simp,by simp⟩
theorem mY.dT {S:bL} {r:bL×Int} (G:Gn S) (hd:S.done≤1000000) (h:mY S r):0≤r.1.done∧r.1.done≤1000000:=by
 have:=G.d0;rw[h.dn];omega
theorem akJ {S:bL} (G:Gn S) (hd:S.done≤1000000) (hw:∀v∈S.weights,0≤v∧v≤1073741824) (hw1:1≤S.weights.length) (hp:1≤S.aD∧S.aD≤12) {o:FA} (ok:cL S.bG.length S.weights.length o) :
  Ck 16 [S.av,o.av] (.bB [(pD S o).1.av,.i (pD S o).2])∧Stp S (pD S o).1:=by
 have hn:=G.hn;have hww:=G.hw
 have fin:∀{r:bL×Int} {k:AV},doS S o=r→mY S r→((Ck 16 [S.av,o.av] (.bB [(dM S r).1.av,.i (dM S r).2])))→Ck 16 [S.av,o.av] (.bB [(pD S o).1.av,.i (pD S o).2])∧Stp S (pD S o).1:=by
  intro r k e F c;unfold pD;rw[e];exact⟨c,F.stp G⟩
 cases o with
 |Ax e item loc q a =>
  obtain⟨h1,h2,h3,h4,h5⟩:=ok;obtain⟨c,F⟩:=acT G hd ⟨h1.1,h1.2,h2.1,h2.2⟩ h3 h4 (a:=a) ⟨h5.1,by omega⟩
  exact fin (k:=.emp) rfl F (d_step1 (akI ⟨h1.1,by omega⟩ ⟨h2.1,by omega⟩ h3 h4 h5) c F.err (F.dT G hd))
 |AT q a ref =>
  obtain⟨h1,h2,h3⟩:=ok;obtain⟨c,F⟩:=al8 G hd h1 (a:=a) ⟨h2.1,by omega⟩ h3
  exact fin (k:=.emp) rfl F (ah0 (akH h1 h2 h3) c F.err (F.dT G hd))
 |vY q ref =>
  obtain⟨h1,h3⟩:=ok;obtain⟨c,F⟩:=amG G hd h1 h3;exact fin (k:=.emp) rfl F (ahZ (akG h1 h3) c F.err (F.dT G hd))
 |adO e item loc q a =>
  obtain⟨h1,h2,h3,h4,h5⟩:=ok;obtain⟨c,F⟩:=akx G hd ⟨h1.1,h1.2,h2.1,h2.2⟩ h3 h4 (a:=a) ⟨h5.1,by omega⟩
  exact fin (k:=.emp) rfl F (ahY (akF ⟨h1.1,by omega⟩ ⟨h2.1,by omega⟩ h3 h4 h5) c F.err (F.dT G hd))
 |take q a ref =>
  obtain⟨h1,h2,h3⟩:=ok;obtain⟨c,F⟩:=akv G hd h1 (a:=a) ⟨h2.1,by omega⟩ h3
  exact fin (k:=.emp) rfl F (ahX (akE h1 h2 h3) c F.err (F.dT G hd))
 |P9 e item loc q =>
  obtain⟨h1,h2,h3,h4⟩:=ok;obtain⟨c,F⟩:=ah1 G hd ⟨h1.1,h1.2,h2.1,h2.2⟩ h3 h4
  exact fin (k:=.emp) rfl F (ahW (akD ⟨h1.1,by omega⟩ ⟨h2.1,by omega⟩ h3 h4) c F.err (F.dT G hd))
 |count e item loc q =>
  obtain⟨h1,h2,h3,h4⟩:=ok;obtain⟨c,F⟩:=ah3 G hd ⟨h1.1,h1.2,h2.1,h2.2⟩ h3 h4
  exact fin (k:=.emp) rfl F (ahV (akC ⟨h1.1,by omega⟩ ⟨h2.1,by omega⟩ h3 h4) c F.err (F.dT G hd))
 |move e item loc dst q =>
  obtain⟨h1,h2,h3,h4,h5,h6⟩:=ok;obtain⟨c,F⟩:=aky G hd ⟨h1.1,h1.2,h2.1,h2.2⟩ h3 h4 h6
  exact fin (k:=.emp) rfl F (ahU (akB ⟨h1.1,by omega⟩ ⟨h2.1,by omega⟩ h3 h4 h6 h5) c F.err (F.dT G hd))
 |Ar e item a =>
  obtain⟨h1,h2,h3⟩:=ok;obtain⟨c,F⟩:=acS G hd ⟨h1.1,h1.2,h2.1,h2.2⟩ h3
  exact fin (k:=.emp) rfl F (ahT (akA ⟨h1.1,by omega⟩ ⟨h2.1,by omega⟩ h3) c F.err (F.dT G hd))
 |wJ e item a =>
  obtain⟨h1,h2,h3⟩:=ok;obtain⟨c,F⟩:=ah2 G ⟨h1.1,h1.2,h2.1,h2.2⟩ (a:=a) ⟨h3.1,by omega⟩
  exact fin (k:=.emp) rfl F (afM (ah9 ⟨h1.1,by omega⟩ ⟨h2.1,by omega⟩ h3) c F.err (F.dT G hd))
 |land dst a refs =>
  obtain⟨h1,h2,h3⟩:=ok;have hrefs:1≤refs.length∧refs.length≤40∧(∀k∈refs,0≤k∧k≤39)∧Ck 22 [qM dst a refs] Kcm:=by
   rcases h3 with⟨r0,rfl,b0⟩|⟨r0,r1,rfl,b0,b1,ne⟩|⟨r0,r1,r2,rfl,b0,b1,b2,lt1,lt2⟩
   ·exact⟨by simp,by simp,fun k hk=>by simp at hk;subst hk;exact b0,acW h1 h2 b0⟩
   ·exact⟨by simp,by simp,fun k hk=>by simp at hk;rcases hk with rfl|rfl<;>assumption,acV h1 h2 b0 b1 ne⟩
   ·exact⟨by simp,by simp,fun k hk=>by simp at hk;rcases hk with rfl|rfl|rfl<;>assumption,acU h1 h2 b0 b1 b2 lt1 lt2⟩
  obtain⟨r1,r2,r3,r4⟩:=hrefs;obtain⟨c,F⟩:=akz G hd hw r1 r2 r3 (dst:=dst) ⟨by omega,by omega⟩ (a:=a) ⟨h2.1,by omega⟩
  exact fin (k:=.emp) rfl F (afL r4 c F.err (F.dT G hd))
 |adL e item loc dst q a =>
  obtain⟨h1,h2,h3,h4,h5,h6,h7⟩:=ok;obtain⟨c,F⟩:=akw G hd ⟨h1.1,h1.2,h2.1,h2.2⟩ h3 ⟨h4.1,h4.2,h2.1,h2.2⟩ h6 (a:=a) ⟨h7.1,by omega⟩
  exact fin (k:=.emp) rfl F (afK (ah8 ⟨h1.1,by omega⟩ ⟨h2.1,by omega⟩ h3 ⟨h4.1,by omega⟩ h6 h7 h5) c F.err (F.dT G hd))
 |LX loc q ref =>
  obtain⟨h1,h2,h3⟩:=ok;obtain⟨c,F⟩:=afN G hd h1 h2 h3;exact fin (k:=.emp) rfl F (afJ (ah7 h1 h2 h3) c F.err (F.dT G hd))
 |close e =>
  have x:Ix S e 0:=⟨ok.1,ok.2,by omega,by omega⟩
  have F:=XX G x;exact fin (k:=.emp) rfl F (afI (ah6 ⟨ok.1,by have:=ok.2;omega⟩) (SM G hw1 x) F.err (F.dT G hd))
 |IJ e =>
  have x:Ix S e 0:=⟨ok.1,ok.2,by omega,by omega⟩
  have F:=Rf G x;exact fin (k:=.emp) rfl F (afH (ah5 ⟨ok.1,by have:=ok.2;omega⟩) (Pl G x) F.err (F.dT G hd))
 |next e =>
  have x:Ix S e 0:=⟨ok.1,ok.2,by omega,by omega⟩
  have F:=acz G x hp.2;exact fin (k:=.emp) rfl F (afG (ah4 ⟨ok.1,by have:=ok.2;omega⟩) (X5 G x hp) F.err (F.dT G hd))
set_option maxRecDepth 1000000
def mAv (n per:Int) (ws:List Int) (ms cs:List (List Int)):AV:=.agg [.i n,.i per,.lit 1 (aA ws),.lit 1 (aO ms),.lit 1 (aO cs)]
instance {n per:Int} {ws:List Int} {ms cs:List (List Int)}:yC (mAv n per ws ms cs):=⟨.agg _ (aX (.c _) (aX (.c _) (aX (gJ _).lit (aX (jG _).lit (aX (jG _).lit eR)))))⟩
def jO (a b:Int):Prop:=a=b
theorem jO.mk (a:Int):jO a a:=Eq.refl a
theorem afX (o:FA):Cl o.av:=by
 cases o<;>first|exact afY _|exact .agg _ (aX (.c _) (aX (.c _) (aX (.c _) (aX (.c _) (aX (.c _) (aX (.c _) (aX (.c _) (aX (.c _) (aX (gJ _).lit eR)))))))))
instance {o:FA}:yC o.av:=⟨afX o⟩
structure MOk (n:Nat) (per:Int) (ws:List Int) (ms cs:List (List Int)):Prop where
 n2:2≤n
 n3:n≤3
 w2:2≤ws.length
 w4:ws.length≤4
 p:1≤per∧per≤4
 ml:ms.length=n
 cl:cs.length=n
 mr:∀r∈ms,r.length=ws.length∧∀v∈r,1≤v∧v≤4
 cr:∀r∈cs,r.length=ws.length∧∀v∈r,0≤v∧v≤1073741824
 wr:∀v∈ws,0≤v∧v≤1073741824
def Pb (w:Nat):dR:=⟨⟨1,false,List.replicate (2*w) ⟨[],0,0,0⟩,List.replicate 17 0,List.replicate w (List.replicate 11 0),List.replicate w (-1),List.replicate w 0⟩,[]⟩
def jQ (n:Nat) (per:Int) (ws:List Int) (ms cs:List (List Int)):bL:=⟨n,per,ws,ms,cs,List.replicate n (Pb ws.length),[],[],[],0⟩
theorem ahO (w:Nat) (ms:List Int):Md w ms (Pb w).toEntC:=by
 refine⟨by simp[Pb],?_,by simp[Pb],?_,by simp[Pb],?_,by simp[Pb],?_,by simp[Pb],?_,by simp[Pb]⟩
 ·intro k p hp
  have:=(List.mem_replicate.1 (List.mem_of_getElem? hp)).2
  subst this;exact⟨⟨by simp,fun x h=>absurd h List.not_mem_nil,by decide,by decide,by decide⟩,.inr (by simp),by decide,by decide,by decide,by decide,.inr ⟨rfl,rfl,rfl⟩⟩
 ·intro v hv
  rw[(List.mem_replicate.1 hv).2];exact z58
 ·intro r hr
  rw[(List.mem_replicate.1 hr).2];refine⟨by simp,fun v hv=>?_⟩
  rw[(List.mem_replicate.1 hv).2];exact z58
 ·intro v hv
  rw[(List.mem_replicate.1 hv).2];exact⟨by simp,by simp[M58]⟩
 ·intro v hv
  rw[(List.mem_replicate.1 hv).2];exact⟨by simp,by simp[M58]⟩
theorem adE {n:Nat} {per:Int} {ws:List Int} {ms cs:List (List Int)} (M:MOk n per ws ms cs):Gn (jQ n per ws ms cs):=by
 obtain⟨n2,n3,w2,w4,p,ml,cl,mr,cr,wr⟩:=M;have mem:∀x∈(jQ n per ws ms cs).bG,x=Pb ws.length:=fun x hx=>(List.mem_replicate.1 hx).2
 have len:(jQ n per ws ms cs).bG.length=n:=by simp[jQ]
 refine⟨⟨by rw[len];omega,by show ws.length≤5;omega,by rw[len];exact ml,by rw[len];exact cl,fun r hr=>(mr r hr).1,fun r hr=>(cr r hr).1,fun r hr=>(mr r hr).2,fun r hr=>(cr r hr).2,?_,?_⟩,by simp[jQ],by simp[jQ],by simp[jQ],?_,?_,?_,by simp[jQ],?_,?_⟩
 ·intro e x hx
  rw[mem x (List.mem_of_getElem? hx)];exact ahO _ _
 ·intro x hx e hh y hy
  rw[mem x hx]at hy;cases hy
 ·intro x hx;cases hx
 ·intro x hx;cases hx
 ·intro x hx;cases hx
 ·intro x hx
  rw[mem x hx];exact⟨rfl,fun y hy=>by cases hy⟩
 ·intro x hx;cases hx
set_option maxHeartbeats 4000000 in
theorem SQ {n:Nat} {per:Int} {ws:List Int} {ms cs:List (List Int)} (M:MOk n per ws ms cs):Ck 31 [mAv n per ws ms cs] (.bB [(jQ n per ws ms cs).av,.i 0]):=by
 obtain⟨n2,n3,hw2,hw4,p,ml,cl,mr,cr,wr⟩:=M;rcases(by omega:n=2∨n=3)with rfl|rfl
 ·obtain⟨ms0,ms1,rfl⟩:=iE ml
  obtain⟨cs0,cs1,rfl⟩:=iE cl;rcases(by omega:ws.length=2∨ws.length=3∨ws.length=4)with h|h|h
  ·rw[h]at mr cr
   obtain⟨w0,w1,rfl⟩:=iE h;simp only[List.forall_mem_cons,List.not_mem_nil,false_imp_iff,implies_true,and_true]at mr cr wr;obtain⟨m00,m01,rfl⟩:=iE mr.1.1;obtain⟨c00,c01,rfl⟩:=iE cr.1.1;obtain⟨m10,m11,rfl⟩:=iE mr.2.1;obtain⟨c10,c11,rfl⟩:=iE cr.2.1;simp only[List.forall_mem_cons,List.not_mem_nil,false_imp_iff,implies_true,and_true]at mr cr;exact cw _ (ev1 { vars:=[(1,4),(0,1073741824),(0,1073741824),(1,4),(1,4),(1,4),(1,4),(0,1073741824),(0,1073741824),(0,1073741824),(0,1073741824)] } [per,w0,w1,m00,m01,m10,m11,c00,c01,c10,c11] [] [] .nil) [(.agg [.i 2,.v 0,Kbc,U2,UQ])] (.bB [(.agg [.i 2,.v 0,Kbc,U2,UQ,(.lit 8 [Ki,Ki]),(.lit 8 []),(.lit 9 []),(.lit 6 []),.i 0]),.i 0]) kn
  ·rw[h]at mr cr
   obtain⟨w0,w1,w2,rfl⟩:=iD h;simp only[List.forall_mem_cons,List.not_mem_nil,false_imp_iff,implies_true,and_true]at mr cr wr;obtain⟨m00,m01,m02,rfl⟩:=iD mr.1.1;obtain⟨c00,c01,c02,rfl⟩:=iD cr.1.1;obtain⟨m10,m11,m12,rfl⟩:=iD mr.2.1;obtain⟨c10,c11,c12,rfl⟩:=iD cr.2.1;simp only[List.forall_mem_cons,List.not_mem_nil,false_imp_iff,implies_true,and_true]at mr cr;exact cw _ (ev1 { vars:=[(1,4),(0,1073741824),(0,1073741824),(0,1073741824),(1,4),(1,4),(1,4),(1,4),(1,4),(1,4),(0,1073741824),(0,1073741824),(0,1073741824),(0,1073741824),(0,1073741824),(0,1073741824)] } [per,w0,w1,w2,m00,m01,m02,m10,m11,m12,c00,c01,c02,c10,c11,c12] [] [] .nil) [(.agg [.i 2,.v 0,BX,Yi,ZD])] (.bB [(.agg [.i 2,.v 0,BX,Yi,ZD,(.lit 8 [Kd,Kd]),(.lit 8 []),(.lit 9 []),(.lit 6 []),.i 0]),.i 0]) kn
  ·rw[h]at mr cr
   obtain⟨w0,w1,w2,w3,rfl⟩:=jD h;simp only[List.forall_mem_cons,List.not_mem_nil,false_imp_iff,implies_true,and_true]at mr cr wr;obtain⟨m00,m01,m02,m03,rfl⟩:=jD mr.1.1;obtain⟨c00,c01,c02,c03,rfl⟩:=jD cr.1.1;obtain⟨m10,m11,m12,m13,rfl⟩:=jD mr.2.1;obtain⟨c10,c11,c12,c13,rfl⟩:=jD cr.2.1;simp only[List.forall_mem_cons,List.not_mem_nil,false_imp_iff,implies_true,and_true]at mr cr;exact cw _ (ev1 { vars:=[(1,4),(0,1073741824),(0,1073741824),(0,1073741824),(0,1073741824),(1,4),(1,4),(1,4),(1,4),(1,4),(1,4),(1,4),(1,4),(0,1073741824),(0,1073741824),(0,1073741824),(0,1073741824),(0,1073741824),(0,1073741824),(0,1073741824),(0,1073741824)] } [per,w0,w1,w2,w3,m00,m01,m02,m03,m10,m11,m12,m13,c00,c01,c02,c03,c10,c11,c12,c13] [] [] .nil) [(.agg [.i 2,.v 0,GY,QX,Qs])] (.bB [(.agg [.i 2,.v 0,GY,QX,Qs,(.lit 8 [Ka,Ka]),(.lit 8 []),(.lit 9 []),(.lit 6 []),.i 0]),.i 0]) kn
 ·obtain⟨ms0,ms1,ms2,rfl⟩:=iD ml
  obtain⟨cs0,cs1,cs2,rfl⟩:=iD cl;rcases(by omega:ws.length=2∨ws.length=3∨ws.length=4)with h|h|h
  ·rw[h]at mr cr
   obtain⟨w0,w1,rfl⟩:=iE h;simp only[List.forall_mem_cons,List.not_mem_nil,false_imp_iff,implies_true,and_true]at mr cr wr;obtain⟨m00,m01,rfl⟩:=iE mr.1.1;obtain⟨c00,c01,rfl⟩:=iE cr.1.1;obtain⟨m10,m11,rfl⟩:=iE mr.2.1.1;obtain⟨c10,c11,rfl⟩:=iE cr.2.1.1;obtain⟨m20,m21,rfl⟩:=iE mr.2.2.1;obtain⟨c20,c21,rfl⟩:=iE cr.2.2.1;simp only[List.forall_mem_cons,List.not_mem_nil,false_imp_iff,implies_true,and_true]at mr cr;exact cw _ (ev1 { vars:=[(1,4),(0,1073741824),(0,1073741824),(1,4),(1,4),(1,4),(1,4),(1,4),(1,4),(0,1073741824),(0,1073741824),(0,1073741824),(0,1073741824),(0,1073741824),(0,1073741824)] } [per,w0,w1,m00,m01,m10,m11,m20,m21,c00,c01,c10,c11,c20,c21] [] [] .nil) [(.agg [.i 3,.v 0,Kbc,Q2,QS])] (.bB [(.agg [.i 3,.v 0,Kbc,Q2,QS,(.lit 8 [Ki,Ki,Ki]),(.lit 8 []),(.lit 9 []),(.lit 6 []),.i 0]),.i 0]) kn
  ·rw[h]at mr cr
   obtain⟨w0,w1,w2,rfl⟩:=iD h;simp only[List.forall_mem_cons,List.not_mem_nil,false_imp_iff,implies_true,and_true]at mr cr wr;obtain⟨m00,m01,m02,rfl⟩:=iD mr.1.1;obtain⟨c00,c01,c02,rfl⟩:=iD cr.1.1;obtain⟨m10,m11,m12,rfl⟩:=iD mr.2.1.1;obtain⟨c10,c11,c12,rfl⟩:=iD cr.2.1.1;obtain⟨m20,m21,m22,rfl⟩:=iD mr.2.2.1;obtain⟨c20,c21,c22,rfl⟩:=iD cr.2.2.1;simp only[List.forall_mem_cons,List.not_mem_nil,false_imp_iff,implies_true,and_true]at mr cr;exact cw _ (ev1 { vars:=[(1,4),(0,1073741824),(0,1073741824),(0,1073741824),(1,4),(1,4),(1,4),(1,4),(1,4),(1,4),(1,4),(1,4),(1,4),(0,1073741824),(0,1073741824),(0,1073741824),(0,1073741824),(0,1073741824),(0,1073741824),(0,1073741824),(0,1073741824),(0,1073741824)] } [per,w0,w1,w2,m00,m01,m02,m10,m11,m12,m20,m21,m22,c00,c01,c02,c10,c11,c12,c20,c21,c22] [] [] .nil) [(.agg [.i 3,.v 0,BX,JX,JE])] (.bB [(.agg [.i 3,.v 0,BX,JX,JE,(.lit 8 [Kd,Kd,Kd]),(.lit 8 []),(.lit 9 []),(.lit 6 []),.i 0]),.i 0]) kn
  ·rw[h]at mr cr
   obtain⟨w0,w1,w2,w3,rfl⟩:=jD h;simp only[List.forall_mem_cons,List.not_mem_nil,false_imp_iff,implies_true,and_true]at mr cr wr;obtain⟨m00,m01,m02,m03,rfl⟩:=jD mr.1.1;obtain⟨c00,c01,c02,c03,rfl⟩:=jD cr.1.1;obtain⟨m10,m11,m12,m13,rfl⟩:=jD mr.2.1.1;obtain⟨c10,c11,c12,c13,rfl⟩:=jD cr.2.1.1;obtain⟨m20,m21,m22,m23,rfl⟩:=jD mr.2.2.1;obtain⟨c20,c21,c22,c23,rfl⟩:=jD cr.2.2.1;simp only[List.forall_mem_cons,List.not_mem_nil,false_imp_iff,implies_true,and_true]at mr cr;exact cw _ (ev1 { vars:=[(1,4),(0,1073741824),(0,1073741824),(0,1073741824),(0,1073741824),(1,4),(1,4),(1,4),(1,4),(1,4),(1,4),(1,4),(1,4),(1,4),(1,4),(1,4),(1,4),(0,1073741824),(0,1073741824),(0,1073741824),(0,1073741824),(0,1073741824),(0,1073741824),(0,1073741824),(0,1073741824),(0,1073741824),(0,1073741824),(0,1073741824),(0,1073741824)] } [per,w0,w1,w2,w3,m00,m01,m02,m03,m10,m11,m12,m13,m20,m21,m22,m23,c00,c01,c02,c03,c10,c11,c12,c13,c20,c21,c22,c23] [] [] .nil) [(.agg [.i 3,.v 0,GY,Jf,Jb])] (.bB [(.agg [.i 3,.v 0,GY,Jf,Jb,(.lit 8 [Ka,Ka,Ka]),(.lit 8 []),(.lit 9 []),(.lit 6 []),.i 0]),.i 0]) kn
set_option maxHeartbeats 4000000 in
theorem ac0 (v:Int):∃(n:Nat) (per:Int) (ws:List Int) (ms cs:List (List Int)),MOk n per ws ms cs∧Ck 11 [.i v] (mAv n per ws ms cs):=by
 have hP:=SS v 1073741824;obtain⟨k,hk⟩:∃k,k=v%1073741824:=⟨_,rfl⟩
 rw[←hk]at hP;have hkb:0≤k∧k≤1073741823:=by omega
 clear hk;obtain⟨k2,hk2,b_k2⟩:∃x,jO x (k/2)∧0≤x∧x≤1073741824:=⟨_,.mk _,by omega,by omega⟩
 obtain⟨k6,hk6,b_k6⟩:∃x,jO x (k/6)∧0≤x∧x≤1073741824:=⟨_,.mk _,by omega,by omega⟩
 obtain⟨r4,hr4,b_r4⟩:∃x,jO x (k6%4)∧0≤x∧x≤3:=⟨_,.mk _,by omega,by omega⟩
 obtain⟨k24,hk24,b_k24⟩:∃x,jO x (k/24)∧0≤x∧x≤1073741824:=⟨_,.mk _,by omega,by omega⟩
 obtain⟨r7,hr7,b_r7⟩:∃x,jO x (k24%7)∧0≤x∧x≤6:=⟨_,.mk _,by omega,by omega⟩
 obtain⟨k168,hk168,b_k168⟩:∃x,jO x (k/168)∧0≤x∧x≤1073741824:=⟨_,.mk _,by omega,by omega⟩
 obtain⟨k672,hk672,b_k672⟩:∃x,jO x (k/672)∧0≤x∧x≤1073741824:=⟨_,.mk _,by omega,by omega⟩
 obtain⟨z,hz,b_z⟩:∃x,jO x (k672%4)∧0≤x∧x≤3:=⟨_,.mk _,by omega,by omega⟩
 obtain⟨k2688,hk2688,b_k2688⟩:∃x,jO x (k/2688)∧0≤x∧x≤1073741824:=⟨_,.mk _,by omega,by omega⟩
 obtain⟨m00,hm00,b_m00⟩:∃x,jO x ((k168)%4)∧0≤x∧x≤3:=⟨_,.mk _,by omega,by omega⟩
 obtain⟨c00,hc00,b_c00⟩:∃x,jO x ((k2688)%40)∧0≤x∧x≤39:=⟨_,.mk _,by omega,by omega⟩
 obtain⟨m01,hm01,b_m01⟩:∃x,jO x ((1+k168)%4)∧0≤x∧x≤3:=⟨_,.mk _,by omega,by omega⟩
 obtain⟨c01,hc01,b_c01⟩:∃x,jO x ((7+k2688)%40)∧0≤x∧x≤39:=⟨_,.mk _,by omega,by omega⟩
 obtain⟨m02,hm02,b_m02⟩:∃x,jO x ((2+k168)%4)∧0≤x∧x≤3:=⟨_,.mk _,by omega,by omega⟩
 obtain⟨c02,hc02,b_c02⟩:∃x,jO x ((14+k2688)%40)∧0≤x∧x≤39:=⟨_,.mk _,by omega,by omega⟩
 obtain⟨m03,hm03,b_m03⟩:∃x,jO x ((3+k168)%4)∧0≤x∧x≤3:=⟨_,.mk _,by omega,by omega⟩
 obtain⟨c03,hc03,b_c03⟩:∃x,jO x ((21+k2688)%40)∧0≤x∧x≤39:=⟨_,.mk _,by omega,by omega⟩
 obtain⟨m10,hm10,b_m10⟩:∃x,jO x ((k168+z)%4)∧0≤x∧x≤3:=⟨_,.mk _,by omega,by omega⟩
 obtain⟨c10,hc10,b_c10⟩:∃x,jO x ((1+k2688)%40)∧0≤x∧x≤39:=⟨_,.mk _,by omega,by omega⟩
 obtain⟨m11,hm11,b_m11⟩:∃x,jO x ((1+k168+z)%4)∧0≤x∧x≤3:=⟨_,.mk _,by omega,by omega⟩
 obtain⟨c11,hc11,b_c11⟩:∃x,jO x ((8+k2688)%40)∧0≤x∧x≤39:=⟨_,.mk _,by omega,by omega⟩
 obtain⟨m12,hm12,b_m12⟩:∃x,jO x ((2+k168+z)%4)∧0≤x∧x≤3:=⟨_,.mk _,by omega,by omega⟩
 obtain⟨c12,hc12,b_c12⟩:∃x,jO x ((15+k2688)%40)∧0≤x∧x≤39:=⟨_,.mk _,by omega,by omega⟩
 obtain⟨m13,hm13,b_m13⟩:∃x,jO x ((3+k168+z)%4)∧0≤x∧x≤3:=⟨_,.mk _,by omega,by omega⟩
 obtain⟨c13,hc13,b_c13⟩:∃x,jO x ((22+k2688)%40)∧0≤x∧x≤39:=⟨_,.mk _,by omega,by omega⟩
 obtain⟨m20,hm20,b_m20⟩:∃x,jO x ((k168+2*z)%4)∧0≤x∧x≤3:=⟨_,.mk _,by omega,by omega⟩
 obtain⟨c20,hc20,b_c20⟩:∃x,jO x ((2+k2688)%40)∧0≤x∧x≤39:=⟨_,.mk _,by omega,by omega⟩
 obtain⟨m21,hm21,b_m21⟩:∃x,jO x ((1+k168+2*z)%4)∧0≤x∧x≤3:=⟨_,.mk _,by omega,by omega⟩
 obtain⟨c21,hc21,b_c21⟩:∃x,jO x ((9+k2688)%40)∧0≤x∧x≤39:=⟨_,.mk _,by omega,by omega⟩
 obtain⟨m22,hm22,b_m22⟩:∃x,jO x ((2+k168+2*z)%4)∧0≤x∧x≤3:=⟨_,.mk _,by omega,by omega⟩
 obtain⟨c22,hc22,b_c22⟩:∃x,jO x ((16+k2688)%40)∧0≤x∧x≤39:=⟨_,.mk _,by omega,by omega⟩
 obtain⟨m23,hm23,b_m23⟩:∃x,jO x ((3+k168+2*z)%4)∧0≤x∧x≤3:=⟨_,.mk _,by omega,by omega⟩
 obtain⟨c23,hc23,b_c23⟩:∃x,jO x ((23+k2688)%40)∧0≤x∧x≤39:=⟨_,.mk _,by omega,by omega⟩
 rcases(by omega:k%2=0∨k%2=1)with r2|r2<;>rcases(by omega:k2%3=0∨k2%3=1∨k2%3=2)with r3|r3|r3
 ·have hr2:jO 0 (k%2):=r2.symm
  have hr3:jO 0 (k2%3):=r3.symm
  clear r2 r3;refine⟨2,1+r4,[r7,1+r7],[[1+m00,1+m01],[1+m10,1+m11]],[[c00,c01],[c10,c11]],⟨by simp,by simp,by simp,by simp,by omega,rfl,rfl,?_,?_,?_⟩,cw _ (evS { vars:=[(0,1073741823),(0,1073741824),(0,1073741824),(0,3),(0,1073741824),(0,6),(0,1073741824),(0,1073741824),(0,3),(0,1073741824),(0,3),(0,39),(0,3),(0,39),(0,3),(0,39),(0,3),(0,39)],defs:=[(1,[([0],1)],[([],2)],[]),BL,(1,[([1],1)],[([],3)],[]),BM,BN,Bu,BO,D9,Ba,BP,DI,Bv,Bb,GJ,Gp,Gq,Gr,W9,Gs],bN:=Bc } [k,k2,k6,r4,k24,r7,k168,k672,z,k2688,m00,c00,m01,c01,m10,c10,m11,c11] [.I v] [] ((((((((((((((((((kG.nil.b b_c11).b b_m11).b b_c10).b b_m10).b b_c01).b b_m01).b b_c00).b b_m00).b b_k2688).b b_z).b b_k672).b b_k168).b b_r7).b b_k24).b b_r4).b b_k6).b b_k2).c) kJ.nil lN.nil .nil (.R k hr2 (.Q k hk2 (.R k2 hr3 (.Q k hk6 (.R k6 hr4 (.Q k hk24 (.R k24 hr7 (.Q k hk168 (.Q k hk672 (.R k672 hz (.Q k hk2688 (.R k168 hm00 (.R k2688 hc00 (.R (1+k168) hm01 (.R (7+k2688) hc01 (.R (k168+z) hm10 (.R (1+k2688) hc10 (.R (1+k168+z) hm11 (.R (8+k2688) hc11 (.nil))))))))))))))))))))) [.o 0] (.agg [.i 2,KbR,Gt,(.lit 1 [U9,Va]),(.lit 1 [[(.lit 1 [[.v 11],[.v 13]])],[(.lit 1 [[.v 15],[.v 17]])]])]) (kc hP kn)⟩
  ·intro r hr
   simp only[List.mem_cons,List.not_mem_nil,or_false]at hr;rcases hr with rfl|rfl<;>exact⟨rfl,fun v hv=>by simp only[List.mem_cons,List.not_mem_nil,or_false]at hv;rcases hv with rfl|rfl<;>omega⟩
  ·intro r hr
   simp only[List.mem_cons,List.not_mem_nil,or_false]at hr;rcases hr with rfl|rfl<;>exact⟨rfl,fun v hv=>by simp only[List.mem_cons,List.not_mem_nil,or_false]at hv;rcases hv with rfl|rfl<;>omega⟩
  ·intro v hv
   simp only[List.mem_cons,List.not_mem_nil,or_false]at hv;rcases hv with rfl|rfl<;>omega
 ·have hr2:jO 0 (k%2):=r2.symm
  have hr3:jO 1 (k2%3):=r3.symm
  clear r2 r3;refine⟨2,1+r4,[r7,1+r7,2+r7],[[1+m00,1+m01,1+m02],[1+m10,1+m11,1+m12]],[[c00,c01,c02],[c10,c11,c12]],⟨by simp,by simp,by simp,by simp,by omega,rfl,rfl,?_,?_,?_⟩,cw _ (evS { vars:=KB,defs:=[(1,[([0],1)],[([],2)],[]),BL,(1,[([1],1)],[([],3)],[([],1)]),BM,BN,Bu,BO,D9,Ba,BP,DI,Bv,Bb,GJ,Gp,GK,Gd,Gv,Gw,Ha,Gx,Hb,Ge],bN:=Bc } [k,k2,k6,r4,k24,r7,k168,k672,z,k2688,m00,c00,m01,c01,m02,c02,m10,c10,m11,c11,m12,c12] [.I v] [] ((((((((((((((((((((((kG.nil.b b_c12).b b_m12).b b_c11).b b_m11).b b_c10).b b_m10).b b_c02).b b_m02).b b_c01).b b_m01).b b_c00).b b_m00).b b_k2688).b b_z).b b_k672).b b_k168).b b_r7).b b_k24).b b_r4).b b_k6).b b_k2).c) kJ.nil lN.nil .nil (.R k hr2 (.Q k hk2 (.R k2 hr3 (.Q k hk6 (.R k6 hr4 (.Q k hk24 (.R k24 hr7 (.Q k hk168 (.Q k hk672 (.R k672 hz (.Q k hk2688 (.R k168 hm00 (.R k2688 hc00 (.R (1+k168) hm01 (.R (7+k2688) hc01 (.R (2+k168) hm02 (.R (14+k2688) hc02 (.R (k168+z) hm10 (.R (1+k2688) hc10 (.R (1+k168+z) hm11 (.R (8+k2688) hc11 (.R (2+k168+z) hm12 (.R (15+k2688) hc12 (.nil))))))))))))))))))))))))) [.o 0] (.agg [.i 2,KbR,UR,(.lit 1 [Zq,Zr]),(.lit 1 [Dp,Dq])]) (kc hP kn)⟩
  ·intro r hr
   simp only[List.mem_cons,List.not_mem_nil,or_false]at hr;rcases hr with rfl|rfl<;>exact⟨rfl,fun v hv=>by simp only[List.mem_cons,List.not_mem_nil,or_false]at hv;rcases hv with rfl|rfl|rfl<;>omega⟩
  ·intro r hr
   simp only[List.mem_cons,List.not_mem_nil,or_false]at hr;rcases hr with rfl|rfl<;>exact⟨rfl,fun v hv=>by simp only[List.mem_cons,List.not_mem_nil,or_false]at hv;rcases hv with rfl|rfl|rfl<;>omega⟩
  ·intro v hv
   simp only[List.mem_cons,List.not_mem_nil,or_false]at hv;rcases hv with rfl|rfl|rfl<;>omega
 ·have hr2:jO 0 (k%2):=r2.symm
  have hr3:jO 2 (k2%3):=r3.symm
  clear r2 r3;refine⟨2,1+r4,[r7,1+r7,2+r7,3+r7],[[1+m00,1+m01,1+m02,1+m03],[1+m10,1+m11,1+m12,1+m13]],[[c00,c01,c02,c03],[c10,c11,c12,c13]],⟨by simp,by simp,by simp,by simp,by omega,rfl,rfl,?_,?_,?_⟩,cw _ (evS { vars:=[(0,1073741823),(0,1073741824),(0,1073741824),(0,3),(0,1073741824),(0,6),(0,1073741824),(0,1073741824),(0,3),(0,1073741824),(0,3),(0,39),(0,3),(0,39),(0,3),(0,39),(0,3),(0,39),(0,3),(0,39),(0,3),(0,39),(0,3),(0,39),(0,3),(0,39)],defs:=[(1,[([0],1)],[([],2)],[]),BL,(1,[([1],1)],[([],3)],[([],2)]),BM,BN,Bu,BO,D9,Ba,BP,DI,Bv,Bb,GJ,Gp,GK,Gd,GL,Gf,Gy,Gz,Hc,GA,He,Gg,Hf,Gh],bN:=Bc } [k,k2,k6,r4,k24,r7,k168,k672,z,k2688,m00,c00,m01,c01,m02,c02,m03,c03,m10,c10,m11,c11,m12,c12,m13,c13] [.I v] [] ((((((((((((((((((((((((((kG.nil.b b_c13).b b_m13).b b_c12).b b_m12).b b_c11).b b_m11).b b_c10).b b_m10).b b_c03).b b_m03).b b_c02).b b_m02).b b_c01).b b_m01).b b_c00).b b_m00).b b_k2688).b b_z).b b_k672).b b_k168).b b_r7).b b_k24).b b_r4).b b_k6).b b_k2).c) kJ.nil lN.nil .nil (.R k hr2 (.Q k hk2 (.R k2 hr3 (.Q k hk6 (.R k6 hr4 (.Q k hk24 (.R k24 hr7 (.Q k hk168 (.Q k hk672 (.R k672 hz (.Q k hk2688 (.R k168 hm00 (.R k2688 hc00 (.R (1+k168) hm01 (.R (7+k2688) hc01 (.R (2+k168) hm02 (.R (14+k2688) hc02 (.R (3+k168) hm03 (.R (21+k2688) hc03 (.R (k168+z) hm10 (.R (1+k2688) hc10 (.R (1+k168+z) hm11 (.R (8+k2688) hc11 (.R (2+k168+z) hm12 (.R (15+k2688) hc12 (.R (3+k168+z) hm13 (.R (22+k2688) hc13 (.nil))))))))))))))))))))))))))))) [.o 0] (.agg [.i 2,KbR,Zf,(.lit 1 [J6,J7]),(.lit 1 [HO,HP])]) (kc hP kn)⟩
  ·intro r hr
   simp only[List.mem_cons,List.not_mem_nil,or_false]at hr;rcases hr with rfl|rfl<;>exact⟨rfl,fun v hv=>by simp only[List.mem_cons,List.not_mem_nil,or_false]at hv;rcases hv with rfl|rfl|rfl|rfl<;>omega⟩
  ·intro r hr
   simp only[List.mem_cons,List.not_mem_nil,or_false]at hr;rcases hr with rfl|rfl<;>exact⟨rfl,fun v hv=>by simp only[List.mem_cons,List.not_mem_nil,or_false]at hv;rcases hv with rfl|rfl|rfl|rfl<;>omega⟩
  ·intro v hv
   simp only[List.mem_cons,List.not_mem_nil,or_false]at hv;rcases hv with rfl|rfl|rfl|rfl<;>omega
 ·have hr2:jO 1 (k%2):=r2.symm
  have hr3:jO 0 (k2%3):=r3.symm
  clear r2 r3;refine⟨3,1+r4,[r7,1+r7],[[1+m00,1+m01],[1+m10,1+m11],[1+m20,1+m21]],[[c00,c01],[c10,c11],[c20,c21]],⟨by simp,by simp,by simp,by simp,by omega,rfl,rfl,?_,?_,?_⟩,cw _ (evS { vars:=KB,defs:=[BY,BL,(1,[([1],1)],[([],3)],[]),BM,BN,Bu,BO,D9,Ba,BP,DI,Bv,Bb,GJ,Gp,Gq,Gr,W9,Gs,(1,[([6],1),([8],2)],[([],4)],[([18],1)]),(1,[([],2),([9],1)],[([],40)],[([19],1)]),(1,Kbk,[([],4)],[([20],1)]),(1,[([],9),([9],1)],[([],40)],[([21],1)])],bN:=Bc } [k,k2,k6,r4,k24,r7,k168,k672,z,k2688,m00,c00,m01,c01,m10,c10,m11,c11,m20,c20,m21,c21] [.I v] [] ((((((((((((((((((((((kG.nil.b b_c21).b b_m21).b b_c20).b b_m20).b b_c11).b b_m11).b b_c10).b b_m10).b b_c01).b b_m01).b b_c00).b b_m00).b b_k2688).b b_z).b b_k672).b b_k168).b b_r7).b b_k24).b b_r4).b b_k6).b b_k2).c) kJ.nil lN.nil .nil (.R k hr2 (.Q k hk2 (.R k2 hr3 (.Q k hk6 (.R k6 hr4 (.Q k hk24 (.R k24 hr7 (.Q k hk168 (.Q k hk672 (.R k672 hz (.Q k hk2688 (.R k168 hm00 (.R k2688 hc00 (.R (1+k168) hm01 (.R (7+k2688) hc01 (.R (k168+z) hm10 (.R (1+k2688) hc10 (.R (1+k168+z) hm11 (.R (8+k2688) hc11 (.R (k168+2*z) hm20 (.R (2+k2688) hc20 (.R (1+k168+2*z) hm21 (.R (9+k2688) hc21 (.nil))))))))))))))))))))))))) [.o 0] (.agg [.i 3,KbR,Gt,(.lit 1 [U9,Va,[(.lit 1 [Kbi,Kbj])]]),(.lit 1 [[(.lit 1 [[.v 11],[.v 13]])],[(.lit 1 [[.v 15],[.v 17]])],[(.lit 1 [[.v 19],[.v 21]])]])]) (kc hP kn)⟩
  ·intro r hr
   simp only[List.mem_cons,List.not_mem_nil,or_false]at hr;rcases hr with rfl|rfl|rfl<;>exact⟨rfl,fun v hv=>by simp only[List.mem_cons,List.not_mem_nil,or_false]at hv;rcases hv with rfl|rfl<;>omega⟩
  ·intro r hr
   simp only[List.mem_cons,List.not_mem_nil,or_false]at hr;rcases hr with rfl|rfl|rfl<;>exact⟨rfl,fun v hv=>by simp only[List.mem_cons,List.not_mem_nil,or_false]at hv;rcases hv with rfl|rfl<;>omega⟩
  ·intro v hv
   simp only[List.mem_cons,List.not_mem_nil,or_false]at hv;rcases hv with rfl|rfl<;>omega
 ·have hr2:jO 1 (k%2):=r2.symm
  have hr3:jO 1 (k2%3):=r3.symm
  clear r2 r3;refine⟨3,1+r4,[r7,1+r7,2+r7],[[1+m00,1+m01,1+m02],[1+m10,1+m11,1+m12],[1+m20,1+m21,1+m22]],[[c00,c01,c02],[c10,c11,c12],[c20,c21,c22]],⟨by simp,by simp,by simp,by simp,by omega,rfl,rfl,?_,?_,?_⟩,cw _ (evS { vars:=[(0,1073741823),(0,1073741824),(0,1073741824),(0,3),(0,1073741824),(0,6),(0,1073741824),(0,1073741824),(0,3),(0,1073741824),(0,3),(0,39),(0,3),(0,39),(0,3),(0,39),(0,3),(0,39),(0,3),(0,39),(0,3),(0,39),(0,3),(0,39),(0,3),(0,39),(0,3),(0,39)],defs:=[BY,BL,(1,[([1],1)],[([],3)],[([],1)]),BM,BN,Bu,BO,D9,Ba,BP,DI,Bv,Bb,GJ,Gp,GK,Gd,Gv,Gw,Ha,Gx,Hb,Ge,(1,[([6],1),([8],2)],[([],4)],[([22],1)]),(1,[([],2),([9],1)],[([],40)],[([23],1)]),(1,Kbk,[([],4)],[([24],1)]),(1,[([],9),([9],1)],[([],40)],[([25],1)]),(1,[([],2),([6],1),([8],2)],[([],4)],[([26],1)]),(1,[([],16),([9],1)],[([],40)],[([27],1)])],bN:=Bc } [k,k2,k6,r4,k24,r7,k168,k672,z,k2688,m00,c00,m01,c01,m02,c02,m10,c10,m11,c11,m12,c12,m20,c20,m21,c21,m22,c22] [.I v] [] ((((((((((((((((((((((((((((kG.nil.b b_c22).b b_m22).b b_c21).b b_m21).b b_c20).b b_m20).b b_c12).b b_m12).b b_c11).b b_m11).b b_c10).b b_m10).b b_c02).b b_m02).b b_c01).b b_m01).b b_c00).b b_m00).b b_k2688).b b_z).b b_k672).b b_k168).b b_r7).b b_k24).b b_r4).b b_k6).b b_k2).c) kJ.nil lN.nil .nil (.R k hr2 (.Q k hk2 (.R k2 hr3 (.Q k hk6 (.R k6 hr4 (.Q k hk24 (.R k24 hr7 (.Q k hk168 (.Q k hk672 (.R k672 hz (.Q k hk2688 (.R k168 hm00 (.R k2688 hc00 (.R (1+k168) hm01 (.R (7+k2688) hc01 (.R (2+k168) hm02 (.R (14+k2688) hc02 (.R (k168+z) hm10 (.R (1+k2688) hc10 (.R (1+k168+z) hm11 (.R (8+k2688) hc11 (.R (2+k168+z) hm12 (.R (15+k2688) hc12 (.R (k168+2*z) hm20 (.R (2+k2688) hc20 (.R (1+k168+2*z) hm21 (.R (9+k2688) hc21 (.R (2+k168+2*z) hm22 (.R (16+k2688) hc22 (.nil))))))))))))))))))))))))))))))) [.o 0] (.agg [.i 3,KbR,UR,(.lit 1 [Zq,Zr,[(.lit 1 [[(.e [([],1),([22],1)])],[(.e [([],1),([24],1)])],[(.e [([],1),([26],1)])]])]]),(.lit 1 [Dp,Dq,[(.lit 1 [[.v 23],[.v 25],[.v 27]])]])]) (kc hP kn)⟩
  ·intro r hr
   simp only[List.mem_cons,List.not_mem_nil,or_false]at hr;rcases hr with rfl|rfl|rfl<;>exact⟨rfl,fun v hv=>by simp only[List.mem_cons,List.not_mem_nil,or_false]at hv;rcases hv with rfl|rfl|rfl<;>omega⟩
  ·intro r hr
   simp only[List.mem_cons,List.not_mem_nil,or_false]at hr;rcases hr with rfl|rfl|rfl<;>exact⟨rfl,fun v hv=>by simp only[List.mem_cons,List.not_mem_nil,or_false]at hv;rcases hv with rfl|rfl|rfl<;>omega⟩
  ·intro v hv
   simp only[List.mem_cons,List.not_mem_nil,or_false]at hv;rcases hv with rfl|rfl|rfl<;>omega
 ·have hr2:jO 1 (k%2):=r2.symm
  have hr3:jO 2 (k2%3):=r3.symm
  clear r2 r3;refine⟨3,1+r4,[r7,1+r7,2+r7,3+r7],[[1+m00,1+m01,1+m02,1+m03],[1+m10,1+m11,1+m12,1+m13],[1+m20,1+m21,1+m22,1+m23]],[[c00,c01,c02,c03],[c10,c11,c12,c13],[c20,c21,c22,c23]],⟨by simp,by simp,by simp,by simp,by omega,rfl,rfl,?_,?_,?_⟩,cw _ (evS { vars:=[(0,1073741823),(0,1073741824),(0,1073741824),(0,3),(0,1073741824),(0,6),(0,1073741824),(0,1073741824),(0,3),(0,1073741824),(0,3),(0,39),(0,3),(0,39),(0,3),(0,39),(0,3),(0,39),(0,3),(0,39),(0,3),(0,39),(0,3),(0,39),(0,3),(0,39),(0,3),(0,39),(0,3),(0,39),(0,3),(0,39),(0,3),(0,39)],defs:=[BY,BL,(1,[([1],1)],[([],3)],[([],2)]),BM,BN,Bu,BO,D9,Ba,BP,DI,Bv,Bb,GJ,Gp,GK,Gd,GL,Gf,Gy,Gz,Hc,GA,He,Gg,Hf,Gh,(1,[([6],1),([8],2)],[([],4)],[([26],1)]),(1,[([],2),([9],1)],[([],40)],[([27],1)]),(1,Kbk,[([],4)],[([28],1)]),(1,[([],9),([9],1)],[([],40)],[([29],1)]),(1,[([],2),([6],1),([8],2)],[([],4)],[([30],1)]),(1,[([],16),([9],1)],[([],40)],[([31],1)]),(1,[([],3),([6],1),([8],2)],[([],4)],[([32],1)]),(1,[([],23),([9],1)],[([],40)],[([33],1)])],bN:=Bc } [k,k2,k6,r4,k24,r7,k168,k672,z,k2688,m00,c00,m01,c01,m02,c02,m03,c03,m10,c10,m11,c11,m12,c12,m13,c13,m20,c20,m21,c21,m22,c22,m23,c23] [.I v] [] ((((((((((((((((((((((((((((((((((kG.nil.b b_c23).b b_m23).b b_c22).b b_m22).b b_c21).b b_m21).b b_c20).b b_m20).b b_c13).b b_m13).b b_c12).b b_m12).b b_c11).b b_m11).b b_c10).b b_m10).b b_c03).b b_m03).b b_c02).b b_m02).b b_c01).b b_m01).b b_c00).b b_m00).b b_k2688).b b_z).b b_k672).b b_k168).b b_r7).b b_k24).b b_r4).b b_k6).b b_k2).c) kJ.nil lN.nil .nil (.R k hr2 (.Q k hk2 (.R k2 hr3 (.Q k hk6 (.R k6 hr4 (.Q k hk24 (.R k24 hr7 (.Q k hk168 (.Q k hk672 (.R k672 hz (.Q k hk2688 (.R k168 hm00 (.R k2688 hc00 (.R (1+k168) hm01 (.R (7+k2688) hc01 (.R (2+k168) hm02 (.R (14+k2688) hc02 (.R (3+k168) hm03 (.R (21+k2688) hc03 (.R (k168+z) hm10 (.R (1+k2688) hc10 (.R (1+k168+z) hm11 (.R (8+k2688) hc11 (.R (2+k168+z) hm12 (.R (15+k2688) hc12 (.R (3+k168+z) hm13 (.R (22+k2688) hc13 (.R (k168+2*z) hm20 (.R (2+k2688) hc20 (.R (1+k168+2*z) hm21 (.R (9+k2688) hc21 (.R (2+k168+2*z) hm22 (.R (16+k2688) hc22 (.R (3+k168+2*z) hm23 (.R (23+k2688) hc23 (.nil))))))))))))))))))))))))))))))))))))) [.o 0] (.agg [.i 3,KbR,Zf,(.lit 1 [J6,J7,[(.lit 1 [[(.e [([],1),([26],1)])],[(.e [([],1),([28],1)])],[(.e [([],1),([30],1)])],[(.e [([],1),([32],1)])]])]]),(.lit 1 [HO,HP,[(.lit 1 [[.v 27],[.v 29],[.v 31],[.v 33]])]])]) (kc hP kn)⟩
  ·intro r hr
   simp only[List.mem_cons,List.not_mem_nil,or_false]at hr;rcases hr with rfl|rfl|rfl<;>exact⟨rfl,fun v hv=>by simp only[List.mem_cons,List.not_mem_nil,or_false]at hv;rcases hv with rfl|rfl|rfl|rfl<;>omega⟩
  ·intro r hr
   simp only[List.mem_cons,List.not_mem_nil,or_false]at hr;rcases hr with rfl|rfl|rfl<;>exact⟨rfl,fun v hv=>by simp only[List.mem_cons,List.not_mem_nil,or_false]at hv;rcases hv with rfl|rfl|rfl|rfl<;>omega⟩
  ·intro v hv
   simp only[List.mem_cons,List.not_mem_nil,or_false]at hv;rcases hv with rfl|rfl|rfl|rfl<;>omega
set_option maxHeartbeats 4000000 in
theorem aje {n:Nat} {per:Int} {ws:List Int} {ms cs:List (List Int)} (M:MOk n per ws ms cs) (v:Int):∃o:FA,cL n ws.length o∧Ck 25 [mAv n per ws ms cs,.i v] o.av:=by
 have n2:=M.n2;have n3:=M.n3;have w2:=M.w2;have w4:=M.w4
 clear M;have hP:=SS v 1099511627776;obtain⟨k,hk⟩:∃k,k=v%1099511627776:=⟨_,rfl⟩
 rw[←hk]at hP;have hkb:0≤k∧k≤1099511627775:=by omega
 clear hk;obtain⟨t,ht,b_t⟩:∃x,jO x (k%32)∧0≤x∧x≤31:=⟨_,.mk _,by omega,by omega⟩
 obtain⟨k32,hk32,b_k32⟩:∃x,jO x (k/32)∧0≤x∧x≤1099511627776:=⟨_,.mk _,by omega,by omega⟩
 obtain⟨e,he,b_e⟩:∃x,jO x (k32%(n:Int))∧0≤x∧x<(n:Int):=⟨_,.mk _,Int.emod_nonneg _ (by omega),Int.emod_lt_of_pos _ (by omega)⟩
 obtain⟨k128,hk128,b_k128⟩:∃x,jO x (k/128)∧0≤x∧x≤1099511627776:=⟨_,.mk _,by omega,by omega⟩
 obtain⟨item,hitem,b_item⟩:∃x,jO x (k128%(ws.length:Int))∧0≤x∧x<(ws.length:Int):=⟨_,.mk _,Int.emod_nonneg _ (by omega),Int.emod_lt_of_pos _ (by omega)⟩
 obtain⟨k1024,hk1024,b_k1024⟩:∃x,jO x (k/1024)∧0≤x∧x≤1099511627776:=⟨_,.mk _,by omega,by omega⟩
 obtain⟨x8,hx8,b_x8⟩:∃x,jO x (k1024%8)∧0≤x∧x≤7:=⟨_,.mk _,by omega,by omega⟩
 obtain⟨loc,hloc,b_loc⟩:∃x,jO x (x8/7)∧0≤x∧x≤1:=⟨_,.mk _,by omega,by omega⟩
 obtain⟨k8192,hk8192,b_k8192⟩:∃x,jO x (k/8192)∧0≤x∧x≤1099511627776:=⟨_,.mk _,by omega,by omega⟩
 obtain⟨y,hy,b_y⟩:∃x,jO x (k8192%24)∧0≤x∧x≤23:=⟨_,.mk _,by omega,by omega⟩
 obtain⟨k196608,hk196608,b_k196608⟩:∃x,jO x (k/196608)∧0≤x∧x≤1099511627776:=⟨_,.mk _,by omega,by omega⟩
 obtain⟨a,ha,b_a⟩:∃x,jO x (k196608%900)∧0≤x∧x≤899:=⟨_,.mk _,by omega,by omega⟩
 obtain⟨k7,hk7,b_k7⟩:∃x,jO x (k/7000000)∧0≤x∧x≤1099511627776:=⟨_,.mk _,by omega,by omega⟩
 obtain⟨ref,href,b_ref⟩:∃x,jO x (k7%12)∧0≤x∧x≤11:=⟨_,.mk _,by omega,by omega⟩
 rcases(by omega:(0≤t∧t≤7)∨(8≤t∧t≤10)∨(11≤t∧t≤11)∨(12≤t∧t≤16)∨(17≤t∧t≤18)∨(19≤t∧t≤19)∨(20≤t∧t≤20)∨(21≤t∧t≤21)∨(22≤t∧t≤22)∨(23≤t∧t≤23)∨(24≤t∧t≤24)∨(25≤t∧t≤26)∨(27≤t∧t≤28)∨(29≤t∧t≤29)∨(30≤t∧t≤30)∨(31≤t∧t≤31))with h|h|h|h|h|h|h|h|h|h|h|h|h|h|h|h
 ·exact⟨.Ax e item loc (1+y) a,by unfold cL;omega,cw _ (ev1 { vars:=[(2,3),(2,4),(0,1099511627775),(0,7),(0,1099511627776),(0,2),(0,1099511627776),(0,3),(0,1099511627776),(0,7),(0,1),(0,1099511627776),(0,23),(0,1099511627776),(0,899),(0,1099511627776),(0,11)],facts:=WH,defs:=Kh,lens:=Kcz,bN:=Dc } [(n:Int),(ws.length:Int),k,t,k32,e,k128,item,k1024,x8,loc,k8192,y,k196608,a,k7,ref] [.I per,.I v] [aA ws,aO ms,aO cs] .nil (.R k ht (.Q k hk32 (.R k32 he (.Q k hk128 (.R k128 hitem (.Q k hk1024 (.R k1024 hx8 (.Q x8 hloc (.Q k hk8192 (.R k8192 hy (.Q k hk196608 (.R k196608 ha (.Q k hk7 (.R k7 href (.nil)))))))))))))))) Hw (.agg [.i 1,.v 5,.v 7,.v 10,.i 0,(.e Kco),.v 14,.i 0,.emp]) (kc hP kn)⟩
 ·obtain⟨y2,hy2,b_y2⟩:∃x,jO x ((1+y)/3)∧0≤x∧x≤8:=⟨_,.mk _,by omega,by omega⟩
  exact⟨.AT (1+y2) a ref,by unfold cL;omega,cw _ (ev1 { vars:=[(2,3),(2,4),(0,1099511627775),(8,10),(0,1099511627776),(0,2),(0,1099511627776),(0,3),(0,1099511627776),(0,7),(0,1),(0,1099511627776),(0,23),(0,1099511627776),(0,899),(0,1099511627776),(0,11),(0,8)],facts:=WH,defs:=Ke,lens:=Kcz,bN:=Dc } [(n:Int),(ws.length:Int),k,t,k32,e,k128,item,k1024,x8,loc,k8192,y,k196608,a,k7,ref,y2] [.I per,.I v] [aA ws,aO ms,aO cs] .nil (.R k ht (.Q k hk32 (.R k32 he (.Q k hk128 (.R k128 hitem (.Q k hk1024 (.R k1024 hx8 (.Q x8 hloc (.Q k hk8192 (.R k8192 hy (.Q k hk196608 (.R k196608 ha (.Q k hk7 (.R k7 href (.Q (1+y) hy2 (.nil))))))))))))))))) Hw (.agg [.i 2,.i 0,.i 0,.i 0,.i 0,KbG,.v 14,.v 16,.emp]) (kc hP kn)⟩
 ·obtain⟨y2,hy2,b_y2⟩:∃x,jO x ((1+y)/6)∧0≤x∧x≤4:=⟨_,.mk _,by omega,by omega⟩
  exact⟨.vY (1+y2) ref,by unfold cL;omega,cw _ (ev1 { vars:=[(2,3),(2,4),(0,1099511627775),(11,11),(0,1099511627776),(0,2),(0,1099511627776),(0,3),(0,1099511627776),(0,7),(0,1),(0,1099511627776),(0,23),(0,1099511627776),(0,899),(0,1099511627776),(0,11),(0,4)],facts:=WH,defs:=[Bw,Bx,By,Bd,Bz,DJ,BQ,BA,Dr,DK,GZ,Dt,GO,DL,(0,Kco,[([],6)],[([17],1)])],lens:=Kcz,bN:=Dc } [(n:Int),(ws.length:Int),k,t,k32,e,k128,item,k1024,x8,loc,k8192,y,k196608,a,k7,ref,y2] [.I per,.I v] [aA ws,aO ms,aO cs] .nil (.R k ht (.Q k hk32 (.R k32 he (.Q k hk128 (.R k128 hitem (.Q k hk1024 (.R k1024 hx8 (.Q x8 hloc (.Q k hk8192 (.R k8192 hy (.Q k hk196608 (.R k196608 ha (.Q k hk7 (.R k7 href (.Q (1+y) hy2 (.nil))))))))))))))))) Hw (.agg [.i 3,.i 0,.i 0,.i 0,.i 0,KbG,.i 0,.v 16,.emp]) (kc hP kn)⟩
 ·obtain⟨y2,hy2,b_y2⟩:∃x,jO x ((1+y)/3)∧0≤x∧x≤8:=⟨_,.mk _,by omega,by omega⟩
  exact⟨.adO e item loc (1+y2) a,by unfold cL;omega,cw _ (ev1 { vars:=[(2,3),(2,4),(0,1099511627775),(12,16),(0,1099511627776),(0,2),(0,1099511627776),(0,3),(0,1099511627776),(0,7),(0,1),(0,1099511627776),(0,23),(0,1099511627776),(0,899),(0,1099511627776),(0,11),(0,8)],facts:=WH,defs:=Ke,lens:=Kcz,bN:=Dc } [(n:Int),(ws.length:Int),k,t,k32,e,k128,item,k1024,x8,loc,k8192,y,k196608,a,k7,ref,y2] [.I per,.I v] [aA ws,aO ms,aO cs] .nil (.R k ht (.Q k hk32 (.R k32 he (.Q k hk128 (.R k128 hitem (.Q k hk1024 (.R k1024 hx8 (.Q x8 hloc (.Q k hk8192 (.R k8192 hy (.Q k hk196608 (.R k196608 ha (.Q k hk7 (.R k7 href (.Q (1+y) hy2 (.nil))))))))))))))))) Hw (.agg [.i 4,.v 5,.v 7,.v 10,.i 0,KbG,.v 14,.i 0,.emp]) (kc hP kn)⟩
 ·obtain⟨y2,hy2,b_y2⟩:∃x,jO x ((1+y)/8)∧0≤x∧x≤3:=⟨_,.mk _,by omega,by omega⟩
  exact⟨.take (1+y2) a ref,by unfold cL;omega,cw _ (ev1 { vars:=[(2,3),(2,4),(0,1099511627775),(17,18),(0,1099511627776),(0,2),(0,1099511627776),(0,3),(0,1099511627776),(0,7),(0,1),(0,1099511627776),(0,23),(0,1099511627776),(0,899),(0,1099511627776),(0,11),(0,3)],facts:=WH,defs:=Kf,lens:=Kcz,bN:=Dc } [(n:Int),(ws.length:Int),k,t,k32,e,k128,item,k1024,x8,loc,k8192,y,k196608,a,k7,ref,y2] [.I per,.I v] [aA ws,aO ms,aO cs] .nil (.R k ht (.Q k hk32 (.R k32 he (.Q k hk128 (.R k128 hitem (.Q k hk1024 (.R k1024 hx8 (.Q x8 hloc (.Q k hk8192 (.R k8192 hy (.Q k hk196608 (.R k196608 ha (.Q k hk7 (.R k7 href (.Q (1+y) hy2 (.nil))))))))))))))))) Hw (.agg [.i 5,.i 0,.i 0,.i 0,.i 0,KbG,.v 14,.v 16,.emp]) (kc hP kn)⟩
 ·obtain⟨y2,hy2,b_y2⟩:∃x,jO x ((1+y)/8)∧0≤x∧x≤3:=⟨_,.mk _,by omega,by omega⟩
  exact⟨.P9 e item loc (1+y2),by unfold cL;omega,cw _ (ev1 { vars:=[(2,3),(2,4),(0,1099511627775),(19,19),(0,1099511627776),(0,2),(0,1099511627776),(0,3),(0,1099511627776),(0,7),(0,1),(0,1099511627776),(0,23),(0,1099511627776),(0,899),(0,1099511627776),(0,11),(0,3)],facts:=WH,defs:=Kf,lens:=Kcz,bN:=Dc } [(n:Int),(ws.length:Int),k,t,k32,e,k128,item,k1024,x8,loc,k8192,y,k196608,a,k7,ref,y2] [.I per,.I v] [aA ws,aO ms,aO cs] .nil (.R k ht (.Q k hk32 (.R k32 he (.Q k hk128 (.R k128 hitem (.Q k hk1024 (.R k1024 hx8 (.Q x8 hloc (.Q k hk8192 (.R k8192 hy (.Q k hk196608 (.R k196608 ha (.Q k hk7 (.R k7 href (.Q (1+y) hy2 (.nil))))))))))))))))) Hw (.agg [.i 6,.v 5,.v 7,.v 10,.i 0,KbG,.i 0,.i 0,.emp]) (kc hP kn)⟩
 ·exact⟨.count e item loc y,by unfold cL;omega,cw _ (ev1 { vars:=[(2,3),(2,4),(0,1099511627775),(20,20),(0,1099511627776),(0,2),(0,1099511627776),(0,3),(0,1099511627776),(0,7),(0,1),(0,1099511627776),(0,23),(0,1099511627776),(0,899),(0,1099511627776),(0,11)],facts:=WH,defs:=Kh,lens:=Kcz,bN:=Dc } [(n:Int),(ws.length:Int),k,t,k32,e,k128,item,k1024,x8,loc,k8192,y,k196608,a,k7,ref] [.I per,.I v] [aA ws,aO ms,aO cs] .nil (.R k ht (.Q k hk32 (.R k32 he (.Q k hk128 (.R k128 hitem (.Q k hk1024 (.R k1024 hx8 (.Q x8 hloc (.Q k hk8192 (.R k8192 hy (.Q k hk196608 (.R k196608 ha (.Q k hk7 (.R k7 href (.nil)))))))))))))))) Hw (.agg [.i 7,.v 5,.v 7,.v 10,.i 0,.v 12,.i 0,.i 0,.emp]) (kc hP kn)⟩
 ·obtain⟨y2,hy2,b_y2⟩:∃x,jO x ((1+y)/3)∧0≤x∧x≤8:=⟨_,.mk _,by omega,by omega⟩
  exact⟨.move e item loc (1-loc) (1+y2),by unfold cL;omega,cw _ (ev1 { vars:=[(2,3),(2,4),(0,1099511627775),(21,21),(0,1099511627776),(0,2),(0,1099511627776),(0,3),(0,1099511627776),(0,7),(0,1),(0,1099511627776),(0,23),(0,1099511627776),(0,899),(0,1099511627776),(0,11),(0,8)],facts:=WH,defs:=Ke,lens:=Kcz,bN:=Dc } [(n:Int),(ws.length:Int),k,t,k32,e,k128,item,k1024,x8,loc,k8192,y,k196608,a,k7,ref,y2] [.I per,.I v] [aA ws,aO ms,aO cs] .nil (.R k ht (.Q k hk32 (.R k32 he (.Q k hk128 (.R k128 hitem (.Q k hk1024 (.R k1024 hx8 (.Q x8 hloc (.Q k hk8192 (.R k8192 hy (.Q k hk196608 (.R k196608 ha (.Q k hk7 (.R k7 href (.Q (1+y) hy2 (.nil))))))))))))))))) Hw (.agg [.i 8,.v 5,.v 7,.v 10,(.e [([],1),([10],(-1))]),KbG,.i 0,.i 0,.emp]) (kc hP kn)⟩
 ·obtain⟨a2,ha2,b_a2⟩:∃x,jO x (a%60)∧0≤x∧x≤59:=⟨_,.mk _,by omega,by omega⟩
  exact⟨.Ar e item a2,by unfold cL;omega,cw _ (ev1 { vars:=[(2,3),(2,4),(0,1099511627775),(22,22),(0,1099511627776),(0,2),(0,1099511627776),(0,3),(0,1099511627776),(0,7),(0,1),(0,1099511627776),(0,23),(0,1099511627776),(0,899),(0,1099511627776),(0,11),(0,59)],facts:=WH,defs:=Kg,lens:=Kcz,bN:=Dc } [(n:Int),(ws.length:Int),k,t,k32,e,k128,item,k1024,x8,loc,k8192,y,k196608,a,k7,ref,a2] [.I per,.I v] [aA ws,aO ms,aO cs] .nil (.R k ht (.Q k hk32 (.R k32 he (.Q k hk128 (.R k128 hitem (.Q k hk1024 (.R k1024 hx8 (.Q x8 hloc (.Q k hk8192 (.R k8192 hy (.Q k hk196608 (.R k196608 ha (.Q k hk7 (.R k7 href (.R a ha2 (.nil))))))))))))))))) Hw (.agg [.i 9,.v 5,.v 7,.i 0,.i 0,.i 0,.v 17,.i 0,.emp]) (kc hP kn)⟩
 ·obtain⟨a2,ha2,b_a2⟩:∃x,jO x (a%60)∧0≤x∧x≤59:=⟨_,.mk _,by omega,by omega⟩
  exact⟨.wJ e item a2,by unfold cL;omega,cw _ (ev1 { vars:=[(2,3),(2,4),(0,1099511627775),(23,23),(0,1099511627776),(0,2),(0,1099511627776),(0,3),(0,1099511627776),(0,7),(0,1),(0,1099511627776),(0,23),(0,1099511627776),(0,899),(0,1099511627776),(0,11),(0,59)],facts:=WH,defs:=Kg,lens:=Kcz,bN:=Dc } [(n:Int),(ws.length:Int),k,t,k32,e,k128,item,k1024,x8,loc,k8192,y,k196608,a,k7,ref,a2] [.I per,.I v] [aA ws,aO ms,aO cs] .nil (.R k ht (.Q k hk32 (.R k32 he (.Q k hk128 (.R k128 hitem (.Q k hk1024 (.R k1024 hx8 (.Q x8 hloc (.Q k hk8192 (.R k8192 hy (.Q k hk196608 (.R k196608 ha (.Q k hk7 (.R k7 href (.R a ha2 (.nil))))))))))))))))) Hw (.agg [.i 10,.v 5,.v 7,.i 0,.i 0,.i 0,.v 17,.i 0,.emp]) (kc hP kn)⟩
 ·obtain⟨ref2,href2,b_ref2⟩:∃x,jO x ((1+ref)%12)∧0≤x∧x≤11:=⟨_,.mk _,by omega,by omega⟩
  obtain⟨a2,ha2,b_a2⟩:∃x,jO x (a%3)∧0≤x∧x≤2:=⟨_,.mk _,by omega,by omega⟩
  rcases(by omega:(1+y)%3=0∨(1+y)%3=1∨(1+y)%3=2)with hs|hs|hs
  ·have hs:jO 0 ((1+y)%3):=hs.symm
   exact⟨.land a2 a [ref],⟨⟨by omega,by omega⟩,⟨by omega,by omega⟩,.inl ⟨ref,rfl,by omega,by omega⟩⟩,cw _ (ev1 { vars:=Kz,facts:=WH,defs:=[Bw,Bx,By,Bd,Bz,DJ,BQ,BA,Dr,DK,GZ,Dt,GO,DL,(1,Kco,[([],3)],[]),Gi,Be],lens:=Kcz,bN:=Dc } [(n:Int),(ws.length:Int),k,t,k32,e,k128,item,k1024,x8,loc,k8192,y,k196608,a,k7,ref,ref2,a2] [.I per,.I v] [aA ws,aO ms,aO cs] .nil (.R k ht (.Q k hk32 (.R k32 he (.Q k hk128 (.R k128 hitem (.Q k hk1024 (.R k1024 hx8 (.Q x8 hloc (.Q k hk8192 (.R k8192 hy (.Q k hk196608 (.R k196608 ha (.Q k hk7 (.R k7 href (.R (1+y) hs (.R (1+ref) href2 (.R a ha2 (.nil))))))))))))))))))) Hw (.agg [.i 11,.i 0,.i 0,.i 0,.v 18,.i 0,.v 14,.i 0,(.lit 1 [[.v 16]])]) (kc hP kn)⟩
  ·have hs:jO 1 ((1+y)%3):=hs.symm
   have hrr:ref2≠ref:=by unfold jO at href2;omega
   exact⟨.land a2 a [ref,ref2],⟨⟨by omega,by omega⟩,⟨by omega,by omega⟩,.inr (.inl ⟨ref,ref2,rfl,⟨by omega,by omega⟩,⟨by omega,by omega⟩,by omega⟩)⟩,cw _ (ev1 { vars:=Kz,facts:=WH,defs:=[Bw,Bx,By,Bd,Bz,DJ,BQ,BA,Dr,DK,GZ,Dt,GO,DL,(1,Kco,[([],3)],[([],1)]),Gi,Be],lens:=Kcz,bN:=Dc } [(n:Int),(ws.length:Int),k,t,k32,e,k128,item,k1024,x8,loc,k8192,y,k196608,a,k7,ref,ref2,a2] [.I per,.I v] [aA ws,aO ms,aO cs] .nil (.R k ht (.Q k hk32 (.R k32 he (.Q k hk128 (.R k128 hitem (.Q k hk1024 (.R k1024 hx8 (.Q x8 hloc (.Q k hk8192 (.R k8192 hy (.Q k hk196608 (.R k196608 ha (.Q k hk7 (.R k7 href (.R (1+y) hs (.R (1+ref) href2 (.R a ha2 (.nil))))))))))))))))))) Hw (.agg [.i 11,.i 0,.i 0,.i 0,.v 18,.i 0,.v 14,.i 0,(.lit 1 [[.v 16],[.v 17]])]) (kc hP kn)⟩
  ·have hs:jO 2 ((1+y)%3):=hs.symm
   exact⟨.land a2 a [0,1+ref,2+ref],⟨⟨by omega,by omega⟩,⟨by omega,by omega⟩,.inr (.inr ⟨0,1+ref,2+ref,rfl,⟨by omega,by omega⟩,⟨by omega,by omega⟩,⟨by omega,by omega⟩,by omega,by omega⟩)⟩,cw _ (ev1 { vars:=Kz,facts:=WH,defs:=[Bw,Bx,By,Bd,Bz,DJ,BQ,BA,Dr,DK,GZ,Dt,GO,DL,(1,Kco,[([],3)],[([],2)]),Gi,Be],lens:=Kcz,bN:=Dc } [(n:Int),(ws.length:Int),k,t,k32,e,k128,item,k1024,x8,loc,k8192,y,k196608,a,k7,ref,ref2,a2] [.I per,.I v] [aA ws,aO ms,aO cs] .nil (.R k ht (.Q k hk32 (.R k32 he (.Q k hk128 (.R k128 hitem (.Q k hk1024 (.R k1024 hx8 (.Q x8 hloc (.Q k hk8192 (.R k8192 hy (.Q k hk196608 (.R k196608 ha (.Q k hk7 (.R k7 href (.R (1+y) hs (.R (1+ref) href2 (.R a ha2 (.nil))))))))))))))))))) Hw (.agg [.i 11,.i 0,.i 0,.i 0,.v 18,.i 0,.v 14,.i 0,(.lit 1 [[.i 0],Kbh,[(.e [([],2),([16],1)])]])]) (kc hP kn)⟩
 ·obtain⟨y2,hy2,b_y2⟩:∃x,jO x ((1+y)/3)∧0≤x∧x≤8:=⟨_,.mk _,by omega,by omega⟩
  obtain⟨a2,ha2,b_a2⟩:∃x,jO x (a%(-1+(n:Int)))∧0≤x∧x < -1+(n:Int):=⟨_,.mk _,Int.emod_nonneg _ (by omega),Int.emod_lt_of_pos _ (by omega)⟩
  obtain⟨dst,hdst,b_dst⟩:∃x,jO x ((1+e+a2)%(n:Int))∧0≤x∧x<(n:Int):=⟨_,.mk _,Int.emod_nonneg _ (by omega),Int.emod_lt_of_pos _ (by omega)⟩
  have hne:dst≠e:=by
   unfold jO at hdst;rcases(by omega:n=2∨n=3)with rfl|rfl<;>omega
  exact⟨.adL e item loc dst (1+y2) a,by unfold cL;omega,cw _ (ev1 { vars:=[(2,3),(2,4),(0,1099511627775),(25,26),(0,1099511627776),(0,2),(0,1099511627776),(0,3),(0,1099511627776),(0,7),(0,1),(0,1099511627776),(0,23),(0,1099511627776),(0,899),(0,1099511627776),(0,11),(0,8),(0,1),(0,2)],facts:=WH,defs:=[Bw,Bx,By,Bd,Bz,DJ,BQ,BA,Dr,DK,GZ,Dt,GO,DL,GB,(1,[([14],1)],[([],-1),([0],1)],[([18],1)]),(1,[([],1),([5],1),([18],1)],[([0],1)],[([19],1)])],lens:=Kcz,bN:=Dc } [(n:Int),(ws.length:Int),k,t,k32,e,k128,item,k1024,x8,loc,k8192,y,k196608,a,k7,ref,y2,a2,dst] [.I per,.I v] [aA ws,aO ms,aO cs] .nil (.R k ht (.Q k hk32 (.R k32 he (.Q k hk128 (.R k128 hitem (.Q k hk1024 (.R k1024 hx8 (.Q x8 hloc (.Q k hk8192 (.R k8192 hy (.Q k hk196608 (.R k196608 ha (.Q k hk7 (.R k7 href (.Q (1+y) hy2 (.R a ha2 (.R (1+e+a2) hdst (.nil))))))))))))))))))) Hw (.agg [.i 12,.v 5,.v 7,.v 10,.v 19,KbG,.v 14,.i 0,.emp]) (kc hP kn)⟩
 ·obtain⟨y2,hy2,b_y2⟩:∃x,jO x ((1+y)/4)∧0≤x∧x≤6:=⟨_,.mk _,by omega,by omega⟩
  exact⟨.LX loc (1+y2) ref,by unfold cL;omega,cw _ (ev1 { vars:=[(2,3),(2,4),(0,1099511627775),(27,28),(0,1099511627776),(0,2),(0,1099511627776),(0,3),(0,1099511627776),(0,7),(0,1),(0,1099511627776),(0,23),(0,1099511627776),(0,899),(0,1099511627776),(0,11),(0,6)],facts:=WH,defs:=[Bw,Bx,By,Bd,Bz,DJ,BQ,BA,Dr,DK,GZ,Dt,GO,DL,(0,Kco,[([],4)],[([17],1)])],lens:=Kcz,bN:=Dc } [(n:Int),(ws.length:Int),k,t,k32,e,k128,item,k1024,x8,loc,k8192,y,k196608,a,k7,ref,y2] [.I per,.I v] [aA ws,aO ms,aO cs] .nil (.R k ht (.Q k hk32 (.R k32 he (.Q k hk128 (.R k128 hitem (.Q k hk1024 (.R k1024 hx8 (.Q x8 hloc (.Q k hk8192 (.R k8192 hy (.Q k hk196608 (.R k196608 ha (.Q k hk7 (.R k7 href (.Q (1+y) hy2 (.nil))))))))))))))))) Hw (.agg [.i 13,.i 0,.i 0,.v 10,.i 0,KbG,.i 0,.v 16,.emp]) (kc hP kn)⟩
 ·exact⟨.close e,by unfold cL;omega,cw _ (ev1 { vars:=[(2,3),(2,4),(0,1099511627775),(29,29),(0,1099511627776),(0,2),(0,1099511627776),(0,3),(0,1099511627776),(0,7),(0,1),(0,1099511627776),(0,23),(0,1099511627776),(0,899),(0,1099511627776),(0,11)],facts:=WH,defs:=Kh,lens:=Kcz,bN:=Dc } [(n:Int),(ws.length:Int),k,t,k32,e,k128,item,k1024,x8,loc,k8192,y,k196608,a,k7,ref] [.I per,.I v] [aA ws,aO ms,aO cs] .nil (.R k ht (.Q k hk32 (.R k32 he (.Q k hk128 (.R k128 hitem (.Q k hk1024 (.R k1024 hx8 (.Q x8 hloc (.Q k hk8192 (.R k8192 hy (.Q k hk196608 (.R k196608 ha (.Q k hk7 (.R k7 href (.nil)))))))))))))))) Hw (.agg [.i 14,.v 5,.i 0,.i 0,.i 0,.i 0,.i 0,.i 0,.emp]) (kc hP kn)⟩
 ·exact⟨.IJ e,by unfold cL;omega,cw _ (ev1 { vars:=[(2,3),(2,4),(0,1099511627775),(30,30),(0,1099511627776),(0,2),(0,1099511627776),(0,3),(0,1099511627776),(0,7),(0,1),(0,1099511627776),(0,23),(0,1099511627776),(0,899),(0,1099511627776),(0,11)],facts:=WH,defs:=Kh,lens:=Kcz,bN:=Dc } [(n:Int),(ws.length:Int),k,t,k32,e,k128,item,k1024,x8,loc,k8192,y,k196608,a,k7,ref] [.I per,.I v] [aA ws,aO ms,aO cs] .nil (.R k ht (.Q k hk32 (.R k32 he (.Q k hk128 (.R k128 hitem (.Q k hk1024 (.R k1024 hx8 (.Q x8 hloc (.Q k hk8192 (.R k8192 hy (.Q k hk196608 (.R k196608 ha (.Q k hk7 (.R k7 href (.nil)))))))))))))))) Hw (.agg [.i 15,.v 5,.i 0,.i 0,.i 0,.i 0,.i 0,.i 0,.emp]) (kc hP kn)⟩
 ·exact⟨.next e,by unfold cL;omega,cw _ (ev1 { vars:=[(2,3),(2,4),(0,1099511627775),(31,31),(0,1099511627776),(0,2),(0,1099511627776),(0,3),(0,1099511627776),(0,7),(0,1),(0,1099511627776),(0,23),(0,1099511627776),(0,899),(0,1099511627776),(0,11)],facts:=WH,defs:=Kh,lens:=Kcz,bN:=Dc } [(n:Int),(ws.length:Int),k,t,k32,e,k128,item,k1024,x8,loc,k8192,y,k196608,a,k7,ref] [.I per,.I v] [aA ws,aO ms,aO cs] .nil (.R k ht (.Q k hk32 (.R k32 he (.Q k hk128 (.R k128 hitem (.Q k hk1024 (.R k1024 hx8 (.Q x8 hloc (.Q k hk8192 (.R k8192 hy (.Q k hk196608 (.R k196608 ha (.Q k hk7 (.R k7 href (.nil)))))))))))))))) Hw (.agg [.i 16,.v 5,.i 0,.i 0,.i 0,.i 0,.i 0,.i 0,.emp]) (kc hP kn)⟩
set_option maxRecDepth 1000000
inductive Reach (n:Nat) (per:Int) (ws:List Int) (ms cs:List (List Int)):Nat→bL→Prop
 |start:Reach n per ws ms cs 0 (jQ n per ws ms cs)
 |step {k:Nat} {S:bL} {o:FA} (h:Reach n per ws ms cs k S) (ok:cL n ws.length o):Reach n per ws ms cs (k+1) (pD S o).1
structure RS (n:Nat) (per:Int) (ws:List Int) (ms:List (List Int)) (k:Nat) (S:bL):Prop where
 gn:Gn S
 le:S.bG.length=n
 wt:S.weights=ws
 pe:S.aD=per
 en:S.aB=n
 me:S.methods=ms
 dn:S.done≤k
theorem RS.step {n:Nat} {per:Int} {ws:List Int} {ms cs:List (List Int)} (M:MOk n per ws ms cs) {k:Nat} {S:bL} (h:RS n per ws ms k S) (hk:k≤900000) {o:FA} (ok:cL n ws.length o) :
  Ck 16 [S.av,o.av] (.bB [(pD S o).1.av,.i (pD S o).2])∧RS n per ws ms (k+1) (pD S o).1:=by
 obtain⟨G,le,wt,pe,en,me,dn⟩:=h;obtain⟨c,s⟩:=akJ (S:=S) G (by omega) (by rw[wt];exact M.wr) (by rw[wt];have:=M.w2;omega) (by rw[pe];have:=M.p;omega) (o:=o) (by rw[le,wt];exact ok)
 exact⟨c,s.gn,s.le.trans le,s.wt.trans wt,s.pe.trans pe,s.en.trans en,s.me.trans me,by have:=s.dn;omega⟩
theorem RS.start {n:Nat} {per:Int} {ws:List Int} {ms cs:List (List Int)} (M:MOk n per ws ms cs):RS n per ws ms 0 (jQ n per ws ms cs) :=
 ⟨adE M,by simp[jQ],rfl,rfl,rfl,rfl,by simp[jQ]⟩
theorem Reach.rs {n:Nat} {per:Int} {ws:List Int} {ms cs:List (List Int)} (M:MOk n per ws ms cs) {k:Nat} {S:bL} (h:Reach n per ws ms cs k S) (hk:k≤900000):RS n per ws ms k S:=by
 induction h with
 |start=>exact .start M
 |step h ok ih=>exact((ih (by omega)).step M (by omega) ok).2
def FA.row (o:FA):List AV:=match o.av with | .agg l=>l|_=>[]
theorem FA.aac (o:FA):o.av=.agg o.row:=by cases o<;>rfl
def lI (l:List FA):List (List AV):=l.map FA.row
@[simp] theorem alW (l:List FA):(lI l).length=l.length:=by simp[lI]
theorem afW (o:FA):∀x∈o.row,Cl x:=by
 have h:=afX o;rw[o.aac]at h;cases h with
 |agg _ h=>exact h
instance (l:List FA):jH (lI l):=⟨nB.map (fun o x hx=>afW o x hx) l⟩
theorem adT (o:FA):∃o0 o1 o2 o3 o4 o5 o6 o7:Int,o.row=[.i o0,.i o1,.i o2,.i o3,.i o4,.i o5,.i o6,.i o7,.emp]∨∃refs,o.row=[.i o0,.i o1,.i o2,.i o3,.i o4,.i o5,.i o6,.i o7,.lit 1 (aA refs)]:=by
 cases o with
 |land dst a refs=>exact⟨_,_,_,_,_,_,_,_,.inr ⟨refs,rfl⟩⟩
 |_=>exact⟨_,_,_,_,_,_,_,_,.inl rfl⟩
namespace NS
abbrev oF (l o i:AV):List AV:=fr 27 [(1,l),(2,.ptr 5 0 0 0),(4,.emp),(5,o),(6,i)]
abbrev sF (o i:AV):List AV:=fr 33 [(2,.ptr 5 0 0 0),(4,.ptr 10 1 0 0),(5,.ptr 10 2 0 0),(6,.i 0),(7,o),(8,i)]
abbrev mB (n per:Int) (ws:List Int) (ms cs:List (List Int)):Mc.bX:=.cells 25 5 [[.i n,.i per,.lit 1 (aA ws),.lit 1 (aO ms),.lit 1 (aO cs)]]
abbrev oO (n:Nat):AV:=.own 50 9 1 0 n
abbrev oB (l:List FA):Mc.bX:=.cells 50 9 (lI l)
abbrev sB (S:bL):Mc.bX:=.cells 31 10 [[.i S.aB,.i S.aD,.lit 1 (aA S.weights),.lit 1 (aO S.methods),.lit 1 (aO S.cP),.lit 8 (aN S.bG),.lit 8 (gH S.aH),.lit 9 (cR S.aM),.lit 6 (gG S.bK),.i S.done]]
abbrev zB:Mc.bX:=.cells 31 10 V9
namespace O
noncomputable def body:Code:=(Tryz.f32).body.getD .skip
abbrev aiU (c:Code) (r:Option (RT Out)):Prop:=CG { vars:=Ka0,lens:=KcB } c (Hg++List.replicate 25 .undef) [] [some 0,none] (oF (.q 1 3) (.own 50 9 1 0 0) (.i 0)) [Hh,(.cells 50 9 [])] r
noncomputable def Iz:Option (RT Out):=Tz { vars:=Ka0,lens:=KcB } body (Hg++List.replicate 25 .undef:List AV).length (Hg++List.replicate 25 .undef) [] 0
theorem alx:aiU body Iz:=⟨rfl,by decide +kernel,by decide +kernel⟩
abbrev aa1 (c:Code):Prop:=gN { vars:=BB,facts:=HQ,lens:=Kat,hH:=[(3,[([1],1)],[.o 2])],bN:=[(25,Hx,(.agg Ho))] } c (oF (.q 1 3) Kbl (.v 1)) Z4 0 [some 0,some 3] (oF (.q 1 3) (.cQ 50 9 1 Kcp) KbH) [Hh,(.sc 50 9 4 [] [Ho] Kcp)]
theorem agE:aa1 (bE Iz):=⟨_,rfl,by decide +kernel,by decide +kernel⟩
abbrev aa0 (c:Code):Prop:=gN { vars:=BB,facts:=HQ,lens:=Kat,hH:=[(3,[([1],1)],[.o 2])],bN:=[(25,Hx,(.agg WW))] } c (oF (.q 1 3) Kbl (.v 1)) Z4 0 [some 0,some 3] (oF (.q 1 3) (.cQ 50 9 1 Kcp) KbH) [Hh,(.sc 50 9 4 [] [WW] Kcp)]
theorem agD:aa0 (bE Iz):=⟨_,rfl,by decide +kernel,by decide +kernel⟩
abbrev aep (c:Code):Prop:=gN { vars:=BC,facts:=[(Kcf,0,0)],lens:=Kat } c (oF (.q 1 3) Kbl (.v 1)) Z4 2 [some 0,some 1] (oF (.q 1 3) Kbl (.v 1)) Z4
theorem ajC:aep (bE Iz):=⟨_,rfl,by decide +kernel,by decide +kernel⟩
abbrev aeo (c:Code):Prop:=gN { vars:=[(0,9223372036854775807),(120,120)],facts:=HQ,lens:=Kat } c (oF (.q 1 3) Kbl (.v 1)) Z4 2 [some 0,some 1] (oF (.q 1 3) Kbl (.v 1)) Z4
theorem ajB:aeo (bE Iz):=⟨_,rfl,by decide +kernel,by decide +kernel⟩
abbrev aen (o:Option (RT Out)):Prop:=mI { vars:=BC,lens:=Kat } Tryz.f32 o 0 (oF (.q 1 3) Kbl (.v 1)) Z4 ((.q 9 4))
theorem ajA:aen Iz:=⟨_,rfl,by decide +kernel,by decide +kernel,by kernel_rfl⟩
end O
namespace S
noncomputable def body:Code:=(Tryz.f10).body.getD .skip
abbrev aiF (c:Code) (r:Option (RT Out)):Prop:=CG { vars:=Ka0,lens:=KcB,bN:=Ky } c (Hg++List.replicate 31 .undef) [] [some 0,some 1,some 2] (sF (.q 9 5) (.i 0)) [Hh,Ux,(.cells 31 10 [ZO])] r
noncomputable def MZ:Option (RT Out):=Tz { vars:=Ka0,lens:=KcB,bN:=Ky } body (Hg++List.replicate 31 .undef:List AV).length (Hg++List.replicate 31 .undef) [] 0
theorem alg:aiF body MZ:=⟨rfl,by decide +kernel,by decide +kernel⟩
abbrev aaX (c:Code):Prop:=gN { vars:=[(0,120),(0,119)],facts:=[(Kcf,1,120)],lens:=KcB,hH:=[(3,[([1],1)],WX)],bN:=[(16,[Uh,(.agg WX)],(.bB [(.agg YW),.o 16]))] } c (sF (.q 9 3) (.v 1)) KA 0 [some 0,some 1,some 2] (sF (.q 9 3) KbH) [Hh,Ux,(.cells 31 10 [YW])]
theorem agA:aaX (bE MZ):=⟨_,rfl,by decide +kernel,by decide +kernel⟩
abbrev aaW (c:Code):Prop:=gN { vars:=[(0,120),(0,119)],facts:=[(Kcf,1,120)],lens:=KcB,hH:=[(3,[([1],1)],Wy)],bN:=[(16,[Uh,(.agg Wy)],(.bB [(.agg YX),.o 16]))] } c (sF (.q 9 3) (.v 1)) KA 0 [some 0,some 1,some 2] (sF (.q 9 3) KbH) [Hh,Ux,(.cells 31 10 [YX])]
theorem agz:aaW (bE MZ):=⟨_,rfl,by decide +kernel,by decide +kernel⟩
abbrev aiE (c:Code):Prop:=gN { vars:=[(0,120)],lens:=KcB } c (sF (.q 9 3) (.v 0)) KA 2 [some 0,some 1,some 2] (sF (.q 9 3) (.v 0)) KA
theorem alf:aiE (bE MZ):=⟨_,rfl,by decide +kernel,by decide +kernel⟩
abbrev aeh (o:Option (RT Out)):Prop:=mI { vars:=[(0,120)],lens:=KcB } Tryz.f10 o 0 (sF (.q 9 3) (.v 0)) KA (Uh)
theorem aju:aeh MZ:=⟨_,rfl,by decide +kernel,by decide +kernel,by kernel_rfl⟩
end S
noncomputable abbrev fO:Func:=Tryz.f32
open O S
section
variable {n':Nat} {per:Int} {ws:List Int} {ms cs:List (List Int)}
theorem aeM (M:MOk n' per ws ms cs) (f:Int→FA) (hf:∀v,cL n' ws.length (f v)∧Ck 25 [mAv n' per ws ms cs,.i v] (f v).av)
  (l:List Int) (hll:l.length≤9223372036854775807) (oA:Option (RT Out)) (rA:aiU O.body oA) (re:aa1 (bE oA)) (rl:aa0 (bE oA)) (r1:aep (bE oA)) (r2:aeo (bE oA)) (rr:aen oA) :
  Ck 32 [mAv n' per ws ms cs,.lit 1 (aA l)] (.lit 9 (lI ((l.take 120).map f))):=by
 obtain⟨n,hn⟩:∃n:Int,n=n':=⟨_,rfl⟩
 rw[←hn]at hf ⊢;refine CK.gY Tryz.func32 (c:=O.body) (by kernel_rfl) (Fh.out) (yC.out) fun A w0 a0=>?_
 intro mm w aa pr;rw[Tryz.ntmps32]at pr;refine rA.go (ev1 _ [(l.length:Int)] [.I n,.I per] [aA ws,aO ms,aO cs,aA l] .nil) (xK kn) pr (fd:=oF (.lit 1 (aA l)) (oO 0) (.i 0)) (bd:=[mB n per ws ms cs,oB []]) ?_
 intro mm w aa pr;refine fQ (fun k a' w=>∃(j:Nat),k=l.length-j∧j≤l.length∧j≤120∧∃mm,@gZ dI dN A w0 a0 mm w a' (oF (.lit 1 (aA l)) (oO j) (.i (j:Int))) (eS [mB n per ws ms cs,oB ((l.take j).map f)])) ?_ (n:=l.length) ⟨0,rfl,Nat.zero_le _,by omega,_,pr⟩
 rintro k aa w ⟨j,rfl,hj,hj2,mm,pr⟩
 have hlen:((l.take j).map f).length=j:=by simp;omega
 by_cases hx:j<l.length∧j<120
 ·obtain⟨v,hv'⟩:∃v,l[j]?=some v:=⟨_,List.getElem?_eq_getElem hx.1⟩
  have hv:l[(j:Int).toNat]?=some v:=by simpa using hv'
  obtain⟨-,hO⟩:=hf v;have nx:∀mm w a,@gZ dI dN A w0 a0 mm w a (oF (.lit 1 (aA l)) (oO (1+(j:Int)).toNat) (.i (1+(j:Int)))) (eS [mB n per ws ms cs,.cells 50 9 (lI ((l.take j).map f)++[(f v).row])])→∃n',n'<l.length-j∧∃(j':Nat),n'=l.length-j'∧j'≤l.length∧j'≤120∧∃mm,@gZ dI dN A w0 a0 mm w a (oF (.lit 1 (aA l)) (oO j') (.i (j':Int))) (eS [mB n per ws ms cs,oB ((l.take j').map f)]):=by
   intro mm w a pr;have e:lI ((l.take j).map f)++[(f v).row]=lI ((l.take (j+1)).map f):=by
    rw[List.take_add_one,hv'];simp[lI]
   rw[e,show(1+(j:Int)).toNat=j+1 by omega,show(1+(j:Int))=((j+1:Nat):Int)by omega]at pr
   exact⟨_,by omega,j+1,rfl,by omega,by omega,mm,pr⟩
  rw[(f v).aac]at hO;obtain⟨o0,o1,o2,o3,o4,o5,o6,o7,ho|⟨refs,ho⟩⟩:=adT (f v)
  ·rw[ho]at hO nx
   generalize (l.take j).map f=os at *
   refine re.go (ev1 _ [(l.length:Int),(j:Int)] [.I n,.I per,.I v,.I o0,.I o1,.I o2,.I o3,.I o4,.I o5,.I o6,.I o7] [aA ws,aO ms,aO cs,aA l,lI os] (.d (aI hv) .nil)) (xK (kc hO kn)) pr (fd:=oF (.lit 1 (aA l)) (oO (1+(j:Int)).toNat) (.i (1+(j:Int)))) (bd:=[mB n per ws ms cs,.cells 50 9 (lI os++[[.i o0,.i o1,.i o2,.i o3,.i o4,.i o5,.i o6,.i o7,.emp]])]) ?_
   exact nx
  ·rw[ho]at hO nx
   generalize (l.take j).map f=os at *
   refine rl.go (ev1 _ [(l.length:Int),(j:Int)] [.I n,.I per,.I v,.I o0,.I o1,.I o2,.I o3,.I o4,.I o5,.I o6,.I o7] [aA ws,aO ms,aO cs,aA l,lI os,aA refs] (.d (aI hv) .nil)) (xK (kc hO kn)) pr (fd:=oF (.lit 1 (aA l)) (oO (1+(j:Int)).toNat) (.i (1+(j:Int)))) (bd:=[mB n per ws ms cs,.cells 50 9 (lI os++[[.i o0,.i o1,.i o2,.i o3,.i o4,.i o5,.i o6,.i o7,.lit 1 (aA refs)]])]) ?_
   exact nx
 ·have hT:l.take j=l.take 120:=by
   rcases(by omega:j=l.length∨j=120)with h|h
   ·rw[List.take_of_length_le (by omega),List.take_of_length_le (by omega)]
   ·rw[h]
  rw[hT]at pr hlen;generalize (l.take 120).map f=os at *
  have fin:∀mm w aa,@gZ dI dN A w0 a0 mm w aa (oF (.lit 1 (aA l)) (oO j) (.i (j:Int))) (eS [mB n per ws ms cs,oB os])→KS Tryz.prog (oK oA) (Fin Tryz.prog fO A w0 a0 (.lit 9 (lI os))) (AX.exit 0).to aa w:=by
   intro mm w aa pr;exact rr.go (ev1 _ [(l.length:Int),(j:Int)] [.I n,.I per] [aA ws,aO ms,aO cs,aA l,lI os] .nil) (xK kn) pr
  rcases(by omega:j=l.length∨(j=120∧j<l.length))with h|⟨h,h2⟩
  ·refine r1.go (ev1 _ [(l.length:Int),(j:Int)] [.I n,.I per] [aA ws,aO ms,aO cs,aA l,lI os] .nil) (xK kn) pr (fd:=oF (.lit 1 (aA l)) (oO j) (.i (j:Int))) (bd:=[mB n per ws ms cs,oB os]) ?_
   exact fin
  ·refine r2.go (ev1 _ [(l.length:Int),(j:Int)] [.I n,.I per] [aA ws,aO ms,aO cs,aA l,lI os] .nil) (xK kn) pr (fd:=oF (.lit 1 (aA l)) (oO j) (.i (j:Int))) (bd:=[mB n per ws ms cs,oB os]) ?_
   exact fin
theorem TM (M:MOk n' per ws ms cs) (os:List FA) (ho:∀o∈os,cL n' ws.length o) (hn120:os.length≤120) (l:List Int) (hll:l.length≤9223372036854775807) (hO:Ck 32 [mAv n' per ws ms cs,.lit 1 (aA l)] (.lit 9 (lI os)))
  (oA:Option (RT Out)) (rA:aiF S.body oA) (re:aaX (bE oA)) (rl:aaW (bE oA)) (rx:aiE (bE oA)) (rr:aeh oA) :
  ∃T,Reach n' per ws ms cs os.length T∧Ck 10 [mAv n' per ws ms cs,.lit 1 (aA l)] T.av:=by
 have go:∀j,j≤os.length→∃T,Reach n' per ws ms cs j T∧T=(os.take j).foldl (fun S o=>(pD S o).1) (jQ n' per ws ms cs):=by
  intro j;induction j with
  |zero=>intro _;exact⟨_,.start,rfl⟩
  |succ j ih =>
   intro hj;obtain⟨T,r,e⟩:=ih (by omega)
   obtain⟨o,hoj⟩:∃o,os[j]?=some o:=⟨_,List.getElem?_eq_getElem (by omega)⟩
   refine⟨_,.step r (ho o (List.mem_of_getElem? hoj)),?_⟩
   rw[List.take_add_one,hoj];simp[←e]
 obtain⟨T0,r0,e0⟩:=go os.length (Nat.le_refl _)
 refine⟨T0,r0,?_⟩
 rw[List.take_length]at e0;have hS:=SQ M;obtain⟨n,hn⟩:∃n:Int,n=n':=⟨_,rfl⟩
 rw[←hn]at hO hS ⊢;have hSa:(jQ n' per ws ms cs).av=.agg [.i n,.i per,.lit 1 (aA ws),.lit 1 (aO ms),.lit 1 (aO cs),.lit 8 (aN (jQ n' per ws ms cs).bG),.lit 8 [],.lit 9 [],.lit 6 [],.i 0]:=by rw[hn];rfl
 rw[hSa]at hS;have hB:sB (jQ n' per ws ms cs)=.cells 31 10 [[.i n,.i per,.lit 1 (aA ws),.lit 1 (aO ms),.lit 1 (aO cs),.lit 8 (aN (jQ n' per ws ms cs).bG),.lit 8 [],.lit 9 [],.lit 6 [],.i 0]]:=by rw[hn];rfl
 refine CK.gY Tryz.func10 (c:=S.body) (by kernel_rfl) (Fh.out) (yC.out) fun A w0 a0=>?_
 intro mm w aa pr;rw[Tryz.ntmps10]at pr;obtain⟨E0,hE0⟩:∃E0,E0=(jQ n' per ws ms cs).bG:=⟨_,rfl⟩
 rw[←hE0]at hS hB;refine rA.go (ev1 _ [(l.length:Int)] [.I n,.I per] [aA ws,aO ms,aO cs,aA l,aN E0,lI os] .nil) (xK (kc hS (kc hO kn))) pr (fd:=sF (.lit 9 (lI os)) (.i 0)) (bd:=[mB n per ws ms cs,zB,.cells 31 10 [[.i n,.i per,.lit 1 (aA ws),.lit 1 (aO ms),.lit 1 (aO cs),.lit 8 (aN E0),.lit 8 [],.lit 9 [],.lit 6 [],.i 0]]]) ?_
 intro mm w aa pr;rw[←hB]at pr;clear hS hSa hO hE0 hB;refine fQ (fun k a' w=>∃(j:Nat) (T:bL),k=os.length-j∧j≤os.length∧Reach n' per ws ms cs j T∧T0=(os.drop j).foldl (fun S o=>(pD S o).1) T∧∃mm,@gZ dI dN A w0 a0 mm w a' (sF (.lit 9 (lI os)) (.i (j:Int))) (eS [mB n per ws ms cs,zB,sB T])) ?_ (n:=os.length) ⟨0,_,rfl,Nat.zero_le _,.start,e0,_,pr⟩
 rintro k aa w ⟨j,T,rfl,hj,hR,hT0,mm,pr⟩
 rcases(by omega:j=os.length∨j<os.length)with rfl|hlt
 ·rw[List.drop_length]at hT0
  have hT0:T=T0:=hT0.symm
  subst hT0;refine rx.go (ev1 _ [(os.length:Int)] [.I n,.I per,.I T.aB,.I T.aD,.I T.done] [aA ws,aO ms,aO cs,lI os,aA T.weights,aO T.methods,aO T.cP,aN T.bG,gH T.aH,cR T.aM,gG T.bK] .nil) (xK kn) pr (fd:=sF (.lit 9 (lI os)) (.i (os.length:Int))) (bd:=[mB n per ws ms cs,zB,sB T]) ?_
  intro mm w aa pr;exact rr.go (ev1 _ [(os.length:Int)] [.I n,.I per,.I T.aB,.I T.aD,.I T.done] [aA ws,aO ms,aO cs,lI os,aA T.weights,aO T.methods,aO T.cP,aN T.bG,gH T.aH,cR T.aM,gG T.bK] .nil) (xK kn) pr
 ·obtain⟨o,hoj⟩:∃o,os[j]?=some o:=⟨_,List.getElem?_eq_getElem hlt⟩
  have hok:=ho o (List.mem_of_getElem? hoj)
  have hdr:os.drop j=o::os.drop (j+1):=by rw[←List.getElem_cons_drop hlt];congr 1;exact Option.some.inj (by rw[←List.getElem?_eq_getElem hlt,hoj])
  rw[hdr,List.foldl_cons]at hT0;obtain⟨hT,-⟩:=(hR.rs M (by omega)).step M (by omega) hok
  have hR2:=Reach.step hR hok;have nx:∀mm w a,@gZ dI dN A w0 a0 mm w a (sF (.lit 9 (lI os)) (.i (1+(j:Int)))) (eS [mB n per ws ms cs,zB,sB (pD T o).1])→∃n'',n''<os.length-j∧∃(j':Nat) (T':bL),n''=os.length-j'∧j'≤os.length∧Reach n' per ws ms cs j' T'∧T0=(os.drop j').foldl (fun S o=>(pD S o).1) T'∧∃mm,@gZ dI dN A w0 a0 mm w a (sF (.lit 9 (lI os)) (.i (j':Int))) (eS [mB n per ws ms cs,zB,sB T']):=by
   intro mm w a pr;rw[show(1+(j:Int))=((j+1:Nat):Int)by omega]at pr
   exact⟨_,by omega,j+1,_,rfl,by omega,hR2,hT0,mm,pr⟩
  have ho:(lI os)[(j:Int).toNat]?=some o.row:=by rw[lI,List.getElem?_map,Int.toNat_natCast,hoj];rfl
  rw[o.aac]at hT;generalize pD T o=r at *;obtain⟨U,f⟩:=r;dsimp only at hT nx
  obtain⟨o0,o1,o2,o3,o4,o5,o6,o7,h|⟨refs,h⟩⟩:=adT o
  ·rw[h]at ho hT
   refine re.go (ev1 _ [(os.length:Int),(j:Int)] [.I n,.I per,.I T.aB,.I T.aD,.I T.done,.I o0,.I o1,.I o2,.I o3,.I o4,.I o5,.I o6,.I o7,.I U.aB,.I U.aD,.I U.done,.I f] [aA ws,aO ms,aO cs,lI os,aA T.weights,aO T.methods,aO T.cP,aN T.bG,gH T.aH,cR T.aM,gG T.bK,aA U.weights,aO U.methods,aO U.cP,aN U.bG,gH U.aH,cR U.aM,gG U.bK] (.d (uD (kP _ _) ho) .nil)) (xK (kc hT kn)) pr (fd:=sF (.lit 9 (lI os)) (.i (1+(j:Int)))) (bd:=[mB n per ws ms cs,zB,sB U]) ?_
   exact nx
  ·rw[h]at ho hT
   refine rl.go (ev1 _ [(os.length:Int),(j:Int)] [.I n,.I per,.I T.aB,.I T.aD,.I T.done,.I o0,.I o1,.I o2,.I o3,.I o4,.I o5,.I o6,.I o7,.I U.aB,.I U.aD,.I U.done,.I f] [aA ws,aO ms,aO cs,lI os,aA T.weights,aO T.methods,aO T.cP,aN T.bG,gH T.aH,cR T.aM,gG T.bK,aA refs,aA U.weights,aO U.methods,aO U.cP,aN U.bG,gH U.aH,cR U.aM,gG U.bK] (.d (uD (kP _ _) ho) .nil)) (xK (kc hT kn)) pr (fd:=sF (.lit 9 (lI os)) (.i (1+(j:Int)))) (bd:=[mB n per ws ms cs,zB,sB U]) ?_
   exact nx
end
end NS
theorem af3 {n:Nat} {per:Int} {ws:List Int} {ms cs:List (List Int)} (M:MOk n per ws ms cs) (l:List Int) (hll:l.length≤9223372036854775807) :
  ∃k T,k≤120∧Reach n per ws ms cs k T∧RS n per ws ms k T∧Ck 10 [mAv n per ws ms cs,.lit 1 (aA l)] T.av:=by
 obtain⟨f,hf⟩:∃f:Int→FA,∀v,cL n ws.length (f v)∧Ck 25 [mAv n per ws ms cs,.i v] (f v).av:=⟨fun v=>(aje M v).choose,fun v=>(aje M v).choose_spec⟩
 have hO:=NS.aeM M f hf l hll NS.O.Iz NS.O.alx NS.O.agE NS.O.agD NS.O.ajC NS.O.ajB NS.O.ajA;have hlen:((l.take 120).map f).length≤120:=by simp;omega
 obtain⟨T,r,c⟩:=NS.TM M ((l.take 120).map f) (fun o ho=>by obtain⟨v,-,rfl⟩:=List.mem_map.1 ho;exact(hf v).1) hlen l hll hO NS.S.MZ NS.S.alg NS.S.agA NS.S.agz NS.S.alf NS.S.aju
 exact⟨_,T,hlen,r,r.rs M (by omega),c⟩
end
namespace Mc
section
variable {b1:Bk} {e1:@Ev b1} {b2:Bk} {e2:@Ev b2} {ids:lP}
theorem Slot.rN {id id':Nat} (h:ids[id']?=some (some id)):Slot b1 e1 b2 e2 ids (.rN id) (.rN id'):=by
 intro m A w v hr;have hm:=jC (m:=m) h
 cases hr with
 |pure _ _ h=>cases h
 |rN _ b hm'=>exact @Rd.rN b2 e2 _ A w id' b (hm.trans hm')
 |Ml _ b hm'=>exact @Rd.Ml b2 e2 _ A w id' b (hm.trans hm')
theorem Slot.fn {f:Fn} {xs ys xs' ys':List AV} (hx:kF b1 e1 b2 e2 ids xs xs') (hy:kF b1 e1 b2 e2 ids ys ys'):Slot b1 e1 b2 e2 ids (.fn f xs ys) (.fn f xs' ys'):=by
 intro m A w v hr;obtain⟨l1,s1⟩:=hx.get;obtain⟨l2,s2⟩:=hy.get;cases hr with
 |pure _ _ h =>
  cases h with
  |fn _ _ _ vs us hl hk h g =>
   refine @Rd.fn b2 e2 _ A w f xs' ys' vs us (by rw[hl,l1]) (by rw[hk,l2]) ?_ ?_
   ·intro i y hy
    obtain⟨x,hx,hs⟩:=s1 i y hy;exact hs m A w _ (@Rd.pure b1 e1 m A w _ _ (h i x hx))
   ·intro i y hy
    obtain⟨x,hx,hs⟩:=s2 i y hy;exact hs m A w _ (@Rd.pure b1 e1 m A w _ _ (g i x hx))
 |fn _ _ _ vs us hl hk h g =>
  refine @Rd.fn b2 e2 _ A w f xs' ys' vs us (by rw[hl,l1]) (by rw[hk,l2]) ?_ ?_
  ·intro i y hy
   obtain⟨x,hx,hs⟩:=s1 i y hy;exact hs m A w _ (h i x hx)
  ·intro i y hy
   obtain⟨x,hx,hs⟩:=s2 i y hy;exact hs m A w _ (g i x hx)
def amo (b1:Bk) (e1:@Ev b1) (b2:Bk) (e2:@Ev b2) (ids:lP) (h1:AH) (o:Option Nat) (B:bX):Prop :=
 yK b1 e1 b2 e2 ids h1 o B∨(∃i st f1 f2 ps asg bd,o=some i∧h1 i=.lp st f1 ps asg bd∧B=.lp st f2 ps asg bd∧kF b1 e1 b2 e2 ids f1 f2)∨∃i,o=some i∧h1 i=.dead∧B=.dead
theorem bW.to2 {m:Nat→St} {A:Nat→Prop} {w:World} {h1:AH} {bs:List bX} (H:@bW b1 e1 m A h1 w) (bl:ids.length=bs.length) (bg:∀(k:Nat) (o:Option Nat),ids[k]?=some o→∃B,bs[k]?=some B∧amo b1 e1 b2 e2 ids h1 o B) (nd:∀(i j k:Nat),ids[i]?=some (some k)→ids[j]?=some (some k)→i=j) (hg:b2.jF=[]:=by rfl) :
  @bW b2 e2 (AN m ids) A (eS bs) w:=by
 have at_:∀k B,eS bs k=B→(B=.no∧AN m ids k=.no)∨∃o,ids[k]?=some o∧amo b1 e1 b2 e2 ids h1 o B:=by
  intro k B hk;cases ho:ids[k]? with
  |none =>
   refine .inl ⟨?_,by unfold AN;rw[ho]⟩
   have hlt:bs.length≤k:=by rw[←bl];exact List.getElem?_eq_none_iff.1 ho
   rw[←hk];unfold eS
   rw[List.getD,List.getElem?_eq_none hlt];rfl
  |some o =>
   obtain⟨B',h2,h3⟩:=bg k o ho;refine .inr ⟨o,rfl,?_⟩
   have:eS bs k=B':=by unfold eS;rw[List.getD,h2];rfl
   rw[←hk,this];exact h3
 have elsOf:∀o B,yK b1 e1 b2 e2 ids h1 o B→∃t,@bX.aW b2 e2 B=some t:=by
  rintro(_|i) B ⟨-,h⟩
  ·obtain⟨T,sz,h⟩:=h;exact⟨_,h⟩
  ·obtain⟨T,sz,e1,e2,-,h,-⟩:=h;exact⟨_,h⟩
 obtain⟨Hout,tO,Hno,Hdead,Harrs,Hinj,Hglob,Hoth,Hscs⟩:=H;refine⟨?_,tO,?_,?_,?_,?_,?_,?_,?_⟩
 ·intro k b hk
  obtain⟨i,-,h⟩:=qL hk;exact Hout i b h
 ·intro k hk
  rcases at_ k _ hk with⟨-,h⟩|⟨o,-,h|⟨i,st,f1,f2,ps,asg,bd,_,_,e,_⟩|⟨i,_,_,e⟩⟩
  ·exact h
  ·obtain⟨t,ht⟩:=elsOf o _ h
   cases ht
  ·cases e
  ·cases e
 ·intro k hk
  rcases at_ k _ hk with⟨h,-⟩|⟨o,ho,h|⟨i,st,f1,f2,ps,asg,bd,_,_,e,_⟩|⟨i,rfl,h,e⟩⟩
  ·cases h
  ·obtain⟨t,ht⟩:=elsOf o _ h
   cases ht
  ·cases e
  ·rw[jC ho];exact Hdead i h
 ·intro k T sz aW hk
  rcases at_ k _ rfl with⟨h,-⟩|⟨o,ho,h|⟨i,st,f1,f2,ps,asg,bd,_,_,e,_⟩|⟨i,_,_,e⟩⟩
  ·rw[h]at hk;cases hk
  ·cases o with
   |none =>
    obtain⟨-,T',sz',h⟩:=h;rw[hk]at h;cases h;exact .inl ⟨Lj ho,rfl⟩
   |some i =>
    obtain⟨-,T',sz',els1,els2,k1,k2,k3,k4,k5⟩:=h;rw[hk]at k2;cases k2;rw[jC ho];rcases Harrs i T sz els1 k1 with⟨g1,g2⟩|⟨b,cs,g1,g2,g3,g4,g5⟩
    ·refine .inl ⟨g1,?_⟩
     rw[g2]at k3;exact List.length_eq_zero_iff.1 k3
    ·refine .inr ⟨b,cs,g1,g2,by rw[k3];exact g3,k5 g4,?_⟩
     intro i' j y hy;obtain⟨x,q1,q2,q3⟩:=k4 i' j y hy;obtain⟨r1,r2⟩:=g5 _ _ _ q1;exact⟨by rw[←q2];exact r1,q3 m A w _ r2⟩
  ·rw[e]at hk;cases hk
  ·rw[e]at hk;cases hk
 ·intro i j b hi hj
  obtain⟨i',c1,c2⟩:=qL hi;obtain⟨j',c3,c4⟩:=qL hj;have:=Hinj i' j' b c2 c4
  subst this;exact nd i j i' c1 c3
 ·exact @GOk.none b2 A w hg
 ·intro k B hk hB'
  rcases at_ k B hk with⟨h,-⟩|⟨o,ho,h|⟨i,st,f1,f2,ps,asg,bd,rfl,hi,rfl,hs⟩|⟨i,_,_,rfl⟩⟩
  ·subst h;exact absurd hB' (by simp[bX.other])
  ·obtain⟨t,ht⟩:=elsOf o _ h
   rw[@bX.pS b2 e2 B hB']at ht;cases ht
  ·obtain⟨b,hb,L,l1,l2,l3,l4,l5,l6,l7,l8⟩:=Hoth i _ hi rfl
   obtain⟨hl,hs⟩:=hs.get;refine⟨b,by rw[jC ho];exact hb,L,l1,l2,l3,l4,l5,l6,by rw[l7,hl],?_⟩
   intro j y hy;obtain⟨x,hx,h⟩:=hs j y hy;exact h m A w _ (l8 j x hx)
  ·exact absurd hB' (by simp[bX.other])
 ·intro k
  rcases at_ k _ rfl with⟨h,-⟩|⟨o,-,h|⟨i,st,f1,f2,ps,asg,bd,_,_,e,_⟩|⟨i,_,_,e⟩⟩
  ·rw[h];trivial
  ·exact h.1
  ·rw[e];trivial
  ·rw[e];trivial
theorem jZ.to2 {m:Nat→St} {A:Nat→Prop} {w:World} {a:Act} {f1 f2:List AV} (F:@jZ b1 e1 m A w f1 a) (hf:kF b1 e1 b2 e2 ids f1 f2):@jZ b2 e2 (AN m ids) A w f2 a:=by
 obtain⟨hl,hs⟩:=hf.get;obtain⟨Fsize,Frd,Fdef⟩:=F;refine⟨by rw[Fsize,hl],?_,?_⟩
 ·intro i y hy
  obtain⟨x,hx,h⟩:=hs i y hy;exact h m A w _ (Frd i x hx)
 ·obtain⟨Ds,d1,d2,d3⟩:=Fdef
  refine⟨Ds,d1,d2,fun D hD=>⟨(d3 D hD).1,?_⟩⟩
  intro k hk;obtain⟨i,-,h⟩:=qL hk;exact(d3 D hD).2 i h
end
theorem OS {m:Nat→St} {n:Nat} (h:∀k,n≤k→m k=.no):AN m (nD n)=m:=by
 funext k
 rcases Nat.lt_or_ge k n with hk|hk
 ·exact jC (iR hk)
 ·have:(nD n)[k]?=none:=List.getElem?_eq_none_iff.2 (by simp[nD];exact hk)
  unfold AN;rw[this,h k hk]
theorem uV {m:Nat→St} {n k:Nat} (hk:k<n):AN m (nD n) k=m k:=jC (iR hk)
theorem Lk {m:Nat→St} {n k:Nat} (hk:n≤k):AN m (nD n) k=.no:=by
 have:(nD n)[k]?=none:=List.getElem?_eq_none_iff.2 (by simp[nD];exact hk)
 unfold AN;rw[this]
theorem Ext.cut {m m':Nat→St} {w w':World} {n:Nat} (E:Ext m w m' w') (h:∀k,n≤k→m k=.no):Ext m w (AN m' (nD n)) w':=by
 have lt:∀k x,m k=x→x≠.no→k<n:=fun k x hk hx=>by
  rcases Nat.lt_or_ge k n with h1|h1
  ·exact h1
  ·exact absurd (hk.symm.trans (h k h1)) hx
 refine⟨E.os,E.tape,E.output,E.size,?_,?_,?_,?_,?_⟩
 ·intro k b hk
  rw[uV (lt k _ hk (by simp))];exact E.at_ k b hk
 ·intro k hk
  rw[uV (lt k _ hk (by simp))];exact E.dead k hk
 ·intro k hk
  rw[uV (lt k _ hk (by simp))];exact E.pF k hk
 ·intro b hb hu
  obtain⟨k1,k2⟩:=E.un b hb hu;refine⟨fun k hk=>?_,k2⟩
  obtain⟨i,-,h⟩:=qL hk;exact k1 i h
 ·intro k b h1 h2
  rw[uV (lt k _ h1 (by simp))]at h2
  exact E.rows k b h1 h2
def LF [Bk] [Ev] (x:AV):AV:=match x with
 | .fn f xs ys=>.fn f (xs.map iN) (ys.map iN)
 | .rN id=>.rN id
 |x=>iN x
def sO3 (n:Nat) (x:AV):Bool:=match x with
 | .fn _ xs ys=>xs.all (sO n)&&ys.all (sO n)
 | .rN id=>decide (id<n)
 |x=>sO n x
def sI3 (b:Bk) (n:Nat) (x:AV):Bool:=match x with
 | .fn _ xs ys=>xs.all (sI b n)&&ys.all (sI b n)
 | .rN id=>decide (id<n)
 |x=>sI b n x
def aaB (ids:lP) (x y:AV):Bool:=match x,y with
 | .fn (.func f) xs ys,.fn (.func f') xs' ys'=>decide (f=f')&&(yS (tW ids) xs xs'&&yS (tW ids) ys ys')
 | .rN id',.rN id=>decide (ids[id]?=some (some id'))
 |x,y=>tW ids x y
section
variable {b:Bk} {ev:@Ev b} {n:Nat}
theorem aj7 {x:AV} (h:sO3 n x=true):Slot b ev dI dN (nD n) x (@LF b ev x):=by
 unfold sO3 at h;split at h
 ·rw[Bool.and_eq_true]at h
  exact Slot.fn (Oa h.1) (Oa h.2)
 ·exact Slot.rN (iR (of_decide_eq_true h))
 ·rename_i h1 h2
  have e:@LF b ev x=@iN b ev x:=by
   unfold LF;split
   ·exact absurd rfl (h1 _ _ _)
   ·exact absurd rfl (h2 _)
   ·rfl
  rw[e];exact Rc h
theorem aj8 {x:AV} (h:sI3 b n x=true):Slot dI dN b ev (nD n) (@LF b ev x) x:=by
 unfold sI3 at h;split at h
 ·rw[Bool.and_eq_true]at h
  exact Slot.fn (Oc h.1) (Oc h.2)
 ·exact Slot.rN (iR (of_decide_eq_true h))
 ·rename_i h1 h2
  have e:@LF b ev x=@iN b ev x:=by
   unfold LF;split
   ·exact absurd rfl (h1 _ _ _)
   ·exact absurd rfl (h2 _)
   ·rfl
  rw[e];exact aaF h
theorem adJ {ids:lP} {x y:AV} (h:aaB ids x y=true):Slot b ev b ev ids x y:=by
 unfold aaB at h;split at h
 ·rw[Bool.and_eq_true,Bool.and_eq_true,decide_eq_true_eq]at h
  obtain⟨rfl,h1,h2⟩:=h;exact Slot.fn (@tV b ev ids _ _ h1) (@tV b ev ids _ _ h2)
 ·exact Slot.rN (of_decide_eq_true h)
 ·exact @Ad b ev ids _ _ h
theorem Ob:∀{l:List AV},l.all (sO3 n)=true→kF b ev dI dN (nD n) l (l.map (@LF b ev))
 |[],_=>.nil
 |x::l,h=>by
  rw[List.all_cons,Bool.and_eq_true]at h;exact .cons (aj7 h.1) (Ob h.2)
theorem Oe:∀{l:List AV},l.all (sI3 b n)=true→kF dI dN b ev (nD n) (l.map (@LF b ev)) l
 |[],_=>.nil
 |x::l,h=>by
  rw[List.all_cons,Bool.and_eq_true]at h;exact .cons (aj8 h.1) (Oe h.2)
theorem MV {ids:lP}:∀{l l':List AV},yS (aaB ids) l l'=true→kF b ev b ev ids l l'
 |[],[],_=>.nil
 |[],_::_,h=>by cases h
 |_::_,[],h=>by cases h
 |x::l,y::m,h=>by
  unfold yS at h;rw[Bool.and_eq_true]at h;exact .cons (adJ h.1) (MV h.2)
end
section
variable {P:Program}
theorem afQ [Bk] [Ev] (hX:iJ P) {L d:Nat} {c:Code} {f l0:List AV} {t:Tr} {n:Nat} {r:RT (AX×Ft)} (hr:(kT P true c).f (gM P L d) L (Ft.of f.length f) t n=some r) (hl:Ft.list r.a.2 4096 0=some l0) :
  fT P true c (fun e f' h'=>e=r.a.1.to∧f'=l0∧h'=r.t.get) f t.get:=by
 have h1:=kC (uG (P:=P) L d) L c (Ft.of f.length f) t n r hr
 obtain⟨a,h2,e1,e2⟩:=kA (vW (P:=P) L d) L c f (Ft.of f.length f) (fun k=>Ft.vA f.length f k (Nat.le_refl _)) t n r h1
 exact kX (nZ hX L d) L c (fun e f' h'=>e=r.a.1.to∧f'=l0∧h'=r.t.get) f t.get n _ h2 ⟨by rw[e1],Sq e2 hl,rfl⟩
end
theorem adQ {b:Bk} {n:Nat} {x:AV} (h:sI b n x=true):sO n x=true:=by
 unfold sI at h;unfold sO;split at h
 ·exact h
 ·rw[Bool.and_eq_true]at h;exact h.1
 ·exact h
 ·rfl
 ·rw[Bool.and_eq_true]at h
  exact h.1
theorem aaE {b:Bk} {ev:@Ev b} {n:Nat} {x:AV} (h:sI b n x=true):Slot b ev b ev (nD n) x x:=by
 unfold sI at h;split at h
 ·exact Slot.ptr (iR (of_decide_eq_true h))
 ·rw[Bool.and_eq_true]at h;exact Slot.cQ (iR (of_decide_eq_true h.1)) rfl
 ·exact Slot.own (iR (of_decide_eq_true h))
 ·exact Slot.fY
 ·rw[Bool.and_eq_true]at h
  exact Slot.data rfl rfl (@LC b ev 12 x h.1) h.2
theorem IE {b:Bk} {ev:@Ev b} {n:Nat}:∀{l:List AV},l.all (sI b n)=true→kF b ev b ev (nD n) l l
 |[],_=>.nil
 |x::l,h=>by
  rw[List.all_cons,Bool.and_eq_true]at h;exact .cons (aaE h.1) (IE h.2)
theorem adR {b:Bk} {ev:@Ev b} {n:Nat} {x:AV} (h:sI3 b n x=true):Slot b ev b ev (nD n) x x:=by
 unfold sI3 at h;split at h
 ·rw[Bool.and_eq_true]at h
  exact Slot.fn (IE h.1) (IE h.2)
 ·exact Slot.rN (iR (of_decide_eq_true h))
 ·exact aaE h
theorem M4 {b:Bk} {ev:@Ev b} {n:Nat}:∀{l:List AV},l.all (sI3 b n)=true→kF b ev b ev (nD n) l l
 |[],_=>.nil
 |x::l,h=>by
  rw[List.all_cons,Bool.and_eq_true]at h;exact .cons (adR h.1) (M4 h.2)
theorem ag3 {b:Bk} {n:Nat} {x:AV} (h:sI3 b n x=true):sO3 n x=true:=by
 unfold sI3 at h;unfold sO3;split at h
 ·rw[Bool.and_eq_true,List.all_eq_true,List.all_eq_true]at *
  exact⟨fun y hy=>adQ (h.1 y hy),fun y hy=>adQ (h.2 y hy)⟩
 ·exact h
 ·exact adQ h
def MF [Bk] [Ev] (B:bX):bX:=match B with
 | .lp st f ps asg bd=>.lp st (f.map LF) ps asg bd
 |B=>qP B
def bI4 (b:Bk) (n:Nat) (B:bX):Bool:=match B with
 | .lp _ f _ _ _=>f.all (sI3 b n)
 | .dead=>true
 |B=>bI b n B
noncomputable def rnC (b:Bk) (c:Code) (f:List AV) (bs:List bX) (n:Nat):Option (RT Out) :=
 match (@kT b Tryz.prog true c).f (@gM b Tryz.prog 100000 60) 100000 (Ft.of f.length f) (zD bs) n with
 |some r=>some { a:=.done r.a.1 r.a.2,t:=r.t,n:=r.n,rd:=r.rd,wr:=r.wr }
 |none=>none
def qY (b:Bk) (n:Nat) (o:Option (RT Out)) (bo:List bX):Prop:=∀(k:Nat) (B:bX),bo[k]?=some B→(af8 (nD n) (oT o).get (some k) B&&bO n B)=true∨(∃st f ps asg bd,B=.lp st f ps asg bd∧(oT o).get k=B∧f.all (sI3 b n)=true)∨(B=.dead∧(oT o).get k=.dead)
def XK (B:bX):Bool:=match B with | .dead=>true|_=>false
def amB (n:Nat) (o:Option (RT Out)) (bo:List bX) (L:Nat):Bool:=(List.range bo.length).all fun k=>k==L||match bo[k]? with|some B=>(af8 (nD n) (oT o).get (some k) B&&bO n B)||(XK B&&XK ((oT o).get k))|none=>false
theorem Nw {B:bX} (h:XK B=true):B=.dead:=by
 cases B<;>first|rfl|cases h
theorem qY.of {b:Bk} {n:Nat} {o:Option (RT Out)} {bo:List bX} {L:Nat} (h:amB n o bo L=true) (hL:∀B,bo[L]?=some B→∃st f ps asg bd,B=.lp st f ps asg bd∧(oT o).get L=B∧f.all (sI3 b n)=true):qY b n o bo:=by
 intro k B hk;have:=List.all_eq_true.1 h k (List.mem_range.2 (List.getElem?_eq_some_iff.1 hk).1)
 rw[Bool.or_eq_true]at this;rcases this with h1|h1
 ·have:k=L:=by simpa using h1
  subst this;exact .inr (.inl (hL B hk))
 ·rw[hk]at h1
  simp only[Bool.or_eq_true]at h1;rcases h1 with h1|h1
  ·exact .inl h1
  ·rw[Bool.and_eq_true]at h1
   exact .inr (.inr ⟨Nw h1.1,Nw h1.2⟩)
def Mk (b:Bk) (c:Code) (fi:List AV) (bi:List bX) (x:Nat) (fo:List AV) (bo:List bX):Prop:=∃o,rnC b c fi bi bi.length=o∧(fi.all (sI3 b bi.length)&&bi.all (bI4 b bi.length))=true∧(vP o x&&(yS (aaB (nD bo.length)) (Lm o) fo&&fo.all (sO3 bo.length))&&decide (bi.length≤bo.length))=true∧qY b bo.length o bo
theorem akq {bs:List bX} {k:Nat} (h:bs.length≤k):eS bs k=.no:=by unfold eS;rw[List.getD,List.getElem?_eq_none h];rfl
theorem Mk.NL {b:Bk} {c:Code} {fi fo fc fd:List AV} {bi bo bc bd:List bX} {x:Nat} (s:Mk b c fi bi x fo bo) (ev:@Ev b) (hX:@iJ b ev Tryz.prog)
  (ef:fi.map (@LF b ev)=fc:=by rfl) (eb:bi.map (@MF b ev)=bc:=by rfl) (eg:fo.map (@LF b ev)=fd:=by rfl) (eh:bo.map (@MF b ev)=bd:=by rfl) (hg:b.jF=[]:=by rfl) :
  @fT dI dN Tryz.prog true c (fun e f h=>e=(xOf x).to∧f=fd∧h=eS bd) fc (eS bc):=by
 obtain⟨o,h1,h2,h3,h4⟩:=s;subst ef eb eg eh;simp only[Bool.and_eq_true,decide_eq_true_eq]at h2 h3;obtain⟨hfi,hbi⟩:=h2;obtain⟨⟨hd,hfo,hso⟩,hlen⟩:=h3
 generalize hn:bi.length=n at *
 generalize hn':bo.length=n' at *
 obtain⟨r,hr,q1,q2⟩:∃r,(@kT b Tryz.prog true c).f (@gM b Tryz.prog 100000 60) 100000 (Ft.of fi.length fi) (zD bi) n=some r∧o=some { a:=.done r.a.1 r.a.2,t:=r.t,n:=r.n,rd:=r.rd,wr:=r.wr }∧True:=by
  unfold rnC at h1;cases hc:(@kT b Tryz.prog true c).f (@gM b Tryz.prog 100000 60) 100000 (Ft.of fi.length fi) (zD bi) n with
  |none=>rw[hc]at h1;subst h1;cases hd
  |some r=>rw[hc]at h1;exact⟨r,rfl,h1.symm,trivial⟩
 obtain⟨hx,hl⟩:=LA hd;have hxa:r.a.1=xOf x:=by
  obtain⟨r',e1,e2,-⟩:=Lh hx;rw[q1]at e1;cases e1;simp only at e2
  injection e2
 have hof:oF o=r.a.2:=by rw[q1];rfl
 have hot:oT o=r.t:=by rw[q1];rfl
 rw[hof]at hl;have K:=@afQ Tryz.prog b ev hX 100000 60 c fi (Lm o) (zD bi) n r hr hl
 rw[hxa,←hot,@vU b ev]at K;intro rr m A w act hrr H F;have hlb:bo.length=n':=hn'
 have hno:∀k,n≤k→m k=.no:=fun k hk=>@bW.no dI dN m A _ w H k (akq (by simp;omega))
 have H2:@bW b ev (AN m (nD n)) A (eS bi) w:=by
  refine @bW.to2 dI dN b ev (nD n) m A w _ bi H (by simp[nD];exact hn.symm) ?_ Lr hg
  intro k o' ho;have hk:k<n:=by
   rcases Nat.lt_or_ge k n with h|h
   ·exact h
   ·rw[List.getElem?_eq_none_iff.2 (by simp[nD];exact h)]at ho;cases ho
  rw[iR hk]at ho;cases ho;obtain⟨B,hB⟩:∃B,bi[k]?=some B:=⟨_,List.getElem?_eq_getElem (by omega)⟩
  refine⟨B,hB,?_⟩
  have hb:=List.all_eq_true.1 hbi B (List.mem_of_getElem? hB)
  have hc:eS (bi.map (@MF b ev)) k=@MF b ev B:=by unfold eS;rw[List.getD,List.getElem?_map,hB];rfl
  unfold bI4 at hb;split at hb
  ·rename_i st f ps asg bd
   exact .inr (.inl ⟨k,st,_,f,ps,asg,bd,rfl,hc,rfl,Oe hb⟩)
  ·exact .inr (.inr ⟨k,rfl,hc,rfl⟩)
  ·rename_i hne hnd
   refine .inl (aji (b:=b) (ev:=ev) ?_ hb)
   rw[hc];unfold MF;split
   ·exact absurd rfl (hne _ _ _ _ _)
   ·rfl
 have F2:@jZ b ev (AN m (nD n)) A w fi act:=@jZ.to2 dI dN b ev (nD n) m A w act _ _ F (Oe hfi)
 rw[OS hno]at H2 F2;refine wpIn_mono (K rr m A w act hrr H2 F2) ?_
 rintro e a' w' ⟨m',f',h',⟨rfl,rfl,rfl⟩,H',F',E',N'⟩
 have F3:=@jZ.to2 b ev b ev (nD n') m' A w' a' _ _ F' (MV hfo)
 have H3:@bW dI dN (AN m' (nD n')) A (eS (bo.map (@MF b ev))) w':=by
  have sc:=@bW.PD b ev m' A _ w' H'
  have H4:@bW b ev (AN m' (nD n')) A (eS bo) w':=by
   refine @bW.to2 b ev b ev (nD n') m' A w' _ bo H' (by simp[nD];exact hlb.symm) ?_ Lr hg
   intro k o' ho;have hk:k<n':=by
    rcases Nat.lt_or_ge k n' with h|h
    ·exact h
    ·rw[List.getElem?_eq_none_iff.2 (by simp[nD];exact h)]at ho;cases ho
   rw[iR hk]at ho;cases ho;obtain⟨B,hB⟩:∃B,bo[k]?=some B:=⟨_,List.getElem?_eq_getElem (by omega)⟩
   refine⟨B,hB,?_⟩
   rcases h4 k B hB with hb|⟨st,f,ps,asg,bd,rfl,hk2,hf⟩|⟨rfl,hk2⟩
   ·rw[Bool.and_eq_true]at hb
    exact .inl (@abC b ev (nD n') _ sc _ _ hb.1)
   ·exact .inr (.inl ⟨k,st,f,f,ps,asg,bd,rfl,hk2,rfl,M4 hf⟩)
   ·exact .inr (.inr ⟨k,rfl,hk2,rfl⟩)
  have H5:=@bW.to2 b ev dI dN (nD n') (AN m' (nD n')) A w' _ (bo.map (@MF b ev)) H4 (by simp[nD];exact hlb.symm) ?_ Lr rfl
  ·rw[OS (fun k hk=>Lk hk)]at H5
   exact H5
  ·intro k o' ho
   have hk:k<n':=by
    rcases Nat.lt_or_ge k n' with h|h
    ·exact h
    ·rw[List.getElem?_eq_none_iff.2 (by simp[nD];exact h)]at ho;cases ho
   rw[iR hk]at ho;cases ho;obtain⟨B,hB⟩:∃B,bo[k]?=some B:=⟨_,List.getElem?_eq_getElem (by omega)⟩
   refine⟨@MF b ev B,by rw[List.getElem?_map,hB];rfl,?_⟩
   have hc:eS bo k=B:=by unfold eS;rw[List.getD,hB];rfl
   rcases h4 k B hB with hb|⟨st,f,ps,asg,bd,rfl,hk2,hf⟩|⟨rfl,hk2⟩
   ·rw[Bool.and_eq_true]at hb
    left
    have:=ajh (b:=b) (ev:=ev) hc hb.2
    have e:@MF b ev B=@qP b ev B:=by
     unfold MF;split
     ·have:=hb.2;cases this
     ·rfl
    rw[e];exact this
   ·exact .inr (.inl ⟨k,st,f,_,ps,asg,bd,rfl,hc,rfl,Ob (List.all_eq_true.2 fun y hy=>ag3 (List.all_eq_true.1 hf y hy))⟩)
   ·exact .inr (.inr ⟨k,rfl,hc,rfl⟩)
 have F4:=@jZ.to2 b ev dI dN (nD n') (AN m' (nD n')) A w' a' _ _ F3 (Ob hso)
 rw[OS (fun k hk=>Lk hk)]at F4
 exact⟨AN m' (nD n'),_,_,⟨rfl,rfl,rfl⟩,H3,F4,E'.cut (fun k hk=>hno k (by omega)),N'⟩
end Mc
namespace Mc
def ac3:Code→Code | .seq x _=>x|c=>c
def MG:Code→Code | .seq _ y=>y|c=>c
def amc:Code→Code | .block _ c=>c|c=>c
def cLp:Code→Code | .loop c=>c|c=>c
def cAs:Code→Code | .rangeFunc _ _ a _=>a|c=>c
def cBd:Code→Code | .rangeFunc _ _ _ b=>b|c=>c
def amb:Code→Array Oper | .region _ o _=>o|_=>#[]
def OY (acK:List Nat) (f:List AV):List AV:=f.mapIdx fun i x=>if acK.contains i then x else .fY
theorem fT.acK [Bk] [Ev] {P:Program} {tp:Bool} {c:Code} {Q:Exit→List AV→AH→Prop} {f:List AV} {h:AH} (acK:List Nat) (k:fT P tp c Q (OY acK f) h):fT P tp c Q f h:=by
 intro r m A w a hr H F;refine k r m A w a hr H ⟨by rw[F.size];simp[OY],?_,F.defers⟩
 intro i x hx;unfold OY at hx;rw[List.getElem?_mapIdx]at hx;obtain⟨y,hy,e⟩:=Option.map_eq_some_iff.1 hx;split at e
 ·subst e;exact F.rd i _ hy
 ·subst e;exact .pure _ _ (.fY _)
theorem Ig (bs:List bX) (B:bX) {n:Nat} (hn:n=bs.length):dW (eS bs) [(n,B)]=eS (bs++[B]):=by
 funext k
 simp only[dW,cH,eS];subst hn;split
 ·rename_i h;subst h;simp
 ·rename_i h
  rw[List.getD_eq_getElem?_getD,List.getD_eq_getElem?_getD];rcases Nat.lt_or_ge k bs.length with h1|h1
  ·rw[List.getElem?_append_left h1]
  ·rw[List.getElem?_eq_none h1,List.getElem?_eq_none (by simp;omega)]
theorem adp (bs:List bX) (X B:bX) {n:Nat} (hn:n=bs.length):dW (dW (eS bs) [(n,X)]) [(n,B)]=eS (bs++[B]):=by
 rw[←Ig bs B hn];funext k
 simp only[dW,cH];split<;>rfl
theorem ahH (bs:List bX) (B:bX) {n:Nat} (hn:n<bs.length):cH (eS bs) n B=eS (bs.set n B):=by
 funext k
 simp only[cH,eS];rw[List.getD_eq_getElem?_getD,List.getD_eq_getElem?_getD,List.getElem?_set];by_cases h:k=n
 ·subst h;rw[if_pos rfl,if_pos rfl,if_pos hn];rfl
 ·rw[if_neg h,if_neg (fun e=>h e.symm)]
theorem CK.acy {P:Program} {k:FuncId} {args:List AV} {r:AV} (ca:∀x∈args,Cl x) (cr:Cl r) (h:@dL dI dN P k args (fun _=>.no) (fun u h'=>∃js,rK h' 16 u=some (r,js))):CK P k args r:=by
 refine⟨ca,cr,?_⟩
 intro A w vs hA hG hl hv;refine(@dL.plain P dI dN k args _ h vs hl w A hA hG hv).mono ?_
 rintro e w' ⟨v,u,m',h',rfl,⟨js,hz⟩,hr,H,hb⟩
 have h1:=@zP dI dN m' A h' w' H js _ _ _ _ _ hz (fun id h=>h) hr
 exact⟨v,rfl,@cO.mono dI dN _ _ _ _ (Nat.le_refl _) (fun c _ hc=>⟨fun h=>hc (.inl h),rfl⟩) _ _ h1,hb⟩
theorem afv {h:AH} {T id:Nat} {zs:List Int} (hh:h id=.cells T 1 (aA zs)) {n:Nat} (hn:n=zs.length):rK h 16 (.own T 1 id 0 n)=some (.lit 1 (aA zs),[id]):=by
 have e:∀l:List Int,Fu (rK h 15) (aA l)=some (aA l,[]):=by
  intro l;induction l with
  |nil=>rfl
  |cons x l ih =>
   show Fu (rK h 15) ([.c (.int .i64 x)]::aA l)=_
   unfold Fu;rw[ih];rfl
 have hl:(aA zs).length=zs.length:=by simp[aA]
 unfold rK;simp only[hh];rw[if_pos ⟨trivial,by rw[hl];omega⟩,List.drop_zero,List.take_of_length_le (by rw[hl];omega),e]
end Mc
section
open Mc
set_option maxRecDepth 1000000
namespace LW
noncomputable def wB:Code:=(Tryz.f27).body.getD .skip
noncomputable def iB:Code:=(Tryz.f104).body.getD .skip
noncomputable def w0:Code:=ac3 wB
noncomputable def w1:Code:=ac3 (MG wB)
noncomputable def w2:Code:=ac3 (ac3 (MG (MG wB)))
noncomputable def wR:Code:=amc (MG (ac3 (MG (MG wB))))
noncomputable def w3:Code:=MG (MG (MG wB))
noncomputable def wAs:Code:=cAs wR
noncomputable def wBd:Code:=cBd wR
noncomputable def i0:Code:=ac3 iB
noncomputable def iL:Code:=cLp (amc (MG iB))
theorem ak5:wB=.seq w0 (.seq w1 (.seq (.seq w2 (.block 0 (.rangeFunc (.tmp 15) #[16,17] wAs wBd))) w3)):=by kernel_rfl
theorem al6:iB=.seq i0 (.block 0 (.loop iL)):=by kernel_rfl
abbrev wF (rf:AV) (l:List (Nat×AV)):List AV:=fr 65 ([(1,rf),(3,.ptr 10 0 0 0),(5,.ptr 1 1 0 0),(6,.emp)]++l)
noncomputable abbrev xT:Mc.bX:=.lp .ready (wF (.q 1 7) [(7,.ptr 1 3 0 0),(15,.fn (.func 104) [] Kax)]) #[16,17] wAs wBd
abbrev iF (rf n i:AV):List AV:=fr 35 [(0,.rN 6),(1,.ptr 1 5 0 0),(2,.ptr 10 4 0 0),(7,rf),(8,n),(9,i)]
theorem alC:Mk { vars:=[(0,60)],lens:=[(7,[([0],1)])] } w0 (D4++List.replicate 62 .undef) [] 0 (wF (.q 1 7) []) [ZG,KbU]:=⟨_,rfl,by decide +kernel,by decide +kernel,qY.of (L:=999) (by decide +kernel) (fun B hB=>by cases hB)⟩
theorem alB:Mk { vars:=[(0,60)],lens:=Kao } w2 (wF (.q 1 7) [(7,.ptr 1 3 0 0)]) [ZG,KbU,KaA,GC] 0 (wF (.q 1 7) [(7,.ptr 1 3 0 0),(15,(.fn (.func 104) [] Kax))]) [ZG,KbU,KaA,GC,ZG,Kbm]:=⟨_,rfl,by decide +kernel,by decide +kernel,qY.of (L:=999) (by decide +kernel) (fun B hB=>by cases hB)⟩
theorem alE:Mk { vars:=[(0,60)],lens:=Kao } i0 ([.rN 6,.ptr 1 5 0 0,.ptr 10 4 0 0]++List.replicate 32 .undef) [ZG,KbU,KaA,GC,ZG,Kbm,xT] 0 (iF (.q 1 7) (.v 0) (.i 0)) [ZG,KbU,KaA,GC,ZG,Kbm,xT]:=⟨_,rfl,by decide +kernel,by decide +kernel,qY.of (L:=6) (by decide +kernel) (fun B hB=>by cases hB;exact⟨_,_,_,_,_,rfl,by kernel_rfl,by decide +kernel⟩)⟩
theorem ajG:Mk { vars:=KaK,facts:=Uj,lens:=H8,hH:=Qt } iL (iF (.q 1 7) (.v 0) (.v 1)) [ZG,KbV,KaA,GC,ZG,Kbm,xT] 0 (iF (.q 1 7) (.v 0) KbH) [ZG,KbV,(.sc 3 1 8 [([([1],1)],[.o 6])] [] [([0],1)]),GC,ZG,Kbm,xT]:=⟨_,rfl,by decide +kernel,by decide +kernel,qY.of (L:=6) (by decide +kernel) (fun B hB=>by cases hB;exact⟨_,_,_,_,_,rfl,by kernel_rfl,by decide +kernel⟩)⟩
theorem ajF:Mk { vars:=KaK,facts:=Uj,lens:=H8,hH:=Qt } iL (iF (.q 1 7) (.v 0) (.v 1)) [ZG,KbW,KaA,GC,ZG,Kbm,xT] 0 (iF (.q 1 7) (.v 0) KbH) [ZG,KbW,(.sc 3 1 8 [([([1],1)],[.o 7])] [] [([0],1)]),GC,ZG,Kbm,xT]:=⟨_,rfl,by decide +kernel,by decide +kernel,qY.of (L:=6) (by decide +kernel) (fun B hB=>by cases hB;exact⟨_,_,_,_,_,rfl,by kernel_rfl,by decide +kernel⟩)⟩
theorem ajE:Mk { vars:=[(0,60),(0,59),(0,40),Me,(0,5),(0,4),(0,1073741824),(0,1073741824)],facts:=QL,lens:=[(7,[([0],1)]),(4,[([2],1)]),(1,[([4],1)]),(8,[([0],1)])],hH:=[Kb6,(1,[([5],1)],[.v 7]),Vw,Kb9] } iL (iF (.q 1 7) (.v 0) (.v 1)) [ZG,KbX,KaA,GC,ZG,Kbm,xT] 0 (iF (.q 1 7) (.v 0) KbH) [ZG,KbX,(.sc 3 1 8 [([([1],1)],[(.e [([6,7],1)])])] [] [([0],1)]),GC,ZG,Kbm,xT]:=⟨_,rfl,by decide +kernel,by decide +kernel,qY.of (L:=6) (by decide +kernel) (fun B hB=>by cases hB;exact⟨_,_,_,_,_,rfl,by kernel_rfl,by decide +kernel⟩)⟩
theorem agH:Mk { vars:=Wz,facts:=Uj,lens:=H8,hH:=ZT } iL (iF (.q 1 7) (.v 0) (.v 1)) [ZG,KbY,KaA,GC,ZG,Kbm,xT] 0 (iF (.q 1 7) (.v 0) KbH) [ZG,KbY,KaA,GC,ZG,Kbm,xT]:=⟨_,rfl,by decide +kernel,by decide +kernel,qY.of (L:=6) (by decide +kernel) (fun B hB=>by cases hB;exact⟨_,_,_,_,_,rfl,by kernel_rfl,by decide +kernel⟩)⟩
theorem agI:Mk { vars:=WM,facts:=Uj,lens:=H8,hH:=ZT } iL (iF (.q 1 7) (.v 0) (.v 1)) [ZG,KbY,KaA,GC,ZG,Kbm,xT] 0 (iF (.q 1 7) (.v 0) KbH) [ZG,KbY,KaA,GC,ZG,Kbm,xT]:=⟨_,rfl,by decide +kernel,by decide +kernel,qY.of (L:=6) (by decide +kernel) (fun B hB=>by cases hB;exact⟨_,_,_,_,_,rfl,by kernel_rfl,by decide +kernel⟩)⟩
theorem ajJ:Mk { vars:=KaK,facts:=U7,lens:=H8,hH:=H9 } iL (iF (.q 1 7) (.v 0) (.v 1)) [ZG,KbV,KaA,GC,ZG,Kbm,xT] 0 (iF (.q 1 7) (.v 0) KbH) [ZG,KbV,HD,GC,ZG,Kbm,xT]:=⟨_,rfl,by decide +kernel,by decide +kernel,qY.of (L:=6) (by decide +kernel) (fun B hB=>by cases hB;exact⟨_,_,_,_,_,rfl,by kernel_rfl,by decide +kernel⟩)⟩
theorem ajI:Mk { vars:=KaK,facts:=U7,lens:=H8,hH:=H9 } iL (iF (.q 1 7) (.v 0) (.v 1)) [ZG,KbW,KaA,GC,ZG,Kbm,xT] 0 (iF (.q 1 7) (.v 0) KbH) [ZG,KbW,HD,GC,ZG,Kbm,xT]:=⟨_,rfl,by decide +kernel,by decide +kernel,qY.of (L:=6) (by decide +kernel) (fun B hB=>by cases hB;exact⟨_,_,_,_,_,rfl,by kernel_rfl,by decide +kernel⟩)⟩
theorem ajH:Mk { vars:=KaK,facts:=U7,lens:=H8,hH:=KbF } iL (iF (.q 1 7) (.v 0) (.v 1)) [ZG,KbX,KaA,GC,ZG,Kbm,xT] 0 (iF (.q 1 7) (.v 0) KbH) [ZG,KbX,KaA,GC,ZG,Kbm,xT]:=⟨_,rfl,by decide +kernel,by decide +kernel,qY.of (L:=6) (by decide +kernel) (fun B hB=>by cases hB;exact⟨_,_,_,_,_,rfl,by kernel_rfl,by decide +kernel⟩)⟩
theorem agJ:Mk { vars:=Wz,facts:=U7,lens:=H8,hH:=KbF } iL (iF (.q 1 7) (.v 0) (.v 1)) [ZG,KbY,KaA,GC,ZG,Kbm,xT] 0 (iF (.q 1 7) (.v 0) KbH) [ZG,KbY,KaA,GC,ZG,Kbm,xT]:=⟨_,rfl,by decide +kernel,by decide +kernel,qY.of (L:=6) (by decide +kernel) (fun B hB=>by cases hB;exact⟨_,_,_,_,_,rfl,by kernel_rfl,by decide +kernel⟩)⟩
theorem agK:Mk { vars:=WM,facts:=U7,lens:=H8,hH:=KbF } iL (iF (.q 1 7) (.v 0) (.v 1)) [ZG,KbY,KaA,GC,ZG,Kbm,xT] 0 (iF (.q 1 7) (.v 0) KbH) [ZG,KbY,KaA,GC,ZG,Kbm,xT]:=⟨_,rfl,by decide +kernel,by decide +kernel,qY.of (L:=6) (by decide +kernel) (fun B hB=>by cases hB;exact⟨_,_,_,_,_,rfl,by kernel_rfl,by decide +kernel⟩)⟩
theorem ajM:Mk { vars:=KaK,facts:=Qn,lens:=H8,hH:=H9 } iL (iF (.q 1 7) (.v 0) (.v 1)) [ZG,KbV,KaA,GC,ZG,Kbm,xT] 0 (iF (.q 1 7) (.v 0) KbH) [ZG,KbV,HD,GC,ZG,Kbm,xT]:=⟨_,rfl,by decide +kernel,by decide +kernel,qY.of (L:=6) (by decide +kernel) (fun B hB=>by cases hB;exact⟨_,_,_,_,_,rfl,by kernel_rfl,by decide +kernel⟩)⟩
theorem ajL:Mk { vars:=KaK,facts:=Qn,lens:=H8,hH:=H9 } iL (iF (.q 1 7) (.v 0) (.v 1)) [ZG,KbW,KaA,GC,ZG,Kbm,xT] 0 (iF (.q 1 7) (.v 0) KbH) [ZG,KbW,HD,GC,ZG,Kbm,xT]:=⟨_,rfl,by decide +kernel,by decide +kernel,qY.of (L:=6) (by decide +kernel) (fun B hB=>by cases hB;exact⟨_,_,_,_,_,rfl,by kernel_rfl,by decide +kernel⟩)⟩
theorem ajK:Mk { vars:=KaK,facts:=Qn,lens:=H8,hH:=KbF } iL (iF (.q 1 7) (.v 0) (.v 1)) [ZG,KbX,KaA,GC,ZG,Kbm,xT] 0 (iF (.q 1 7) (.v 0) KbH) [ZG,KbX,KaA,GC,ZG,Kbm,xT]:=⟨_,rfl,by decide +kernel,by decide +kernel,qY.of (L:=6) (by decide +kernel) (fun B hB=>by cases hB;exact⟨_,_,_,_,_,rfl,by kernel_rfl,by decide +kernel⟩)⟩
theorem agL:Mk { vars:=Wz,facts:=Qn,lens:=H8,hH:=KbF } iL (iF (.q 1 7) (.v 0) (.v 1)) [ZG,KbY,KaA,GC,ZG,Kbm,xT] 0 (iF (.q 1 7) (.v 0) KbH) [ZG,KbY,KaA,GC,ZG,Kbm,xT]:=⟨_,rfl,by decide +kernel,by decide +kernel,qY.of (L:=6) (by decide +kernel) (fun B hB=>by cases hB;exact⟨_,_,_,_,_,rfl,by kernel_rfl,by decide +kernel⟩)⟩
theorem agM:Mk { vars:=WM,facts:=Qn,lens:=H8,hH:=KbF } iL (iF (.q 1 7) (.v 0) (.v 1)) [ZG,KbY,KaA,GC,ZG,Kbm,xT] 0 (iF (.q 1 7) (.v 0) KbH) [ZG,KbY,KaA,GC,ZG,Kbm,xT]:=⟨_,rfl,by decide +kernel,by decide +kernel,qY.of (L:=6) (by decide +kernel) (fun B hB=>by cases hB;exact⟨_,_,_,_,_,rfl,by kernel_rfl,by decide +kernel⟩)⟩
theorem alD:Mk { vars:=[(0,60)],lens:=Kao } iL (iF (.q 1 7) (.v 0) (.v 0)) [ZG,KbU,KaA,GC,ZG,Kbm,xT] 2 (iF (.q 1 7) (.v 0) (.v 0)) [ZG,KbU,KaA,GC,ZG,Kbm,xT]:=⟨_,rfl,by decide +kernel,by decide +kernel,qY.of (L:=6) (by decide +kernel) (fun B hB=>by cases hB;exact⟨_,_,_,_,_,rfl,by kernel_rfl,by decide +kernel⟩)⟩
theorem alA:Mk { vars:=[(0,60)],lens:=Kao } w3 (wF (.q 1 7) [(7,.ptr 1 3 0 0),(15,(.fn (.func 104) [] Kax))]) [ZG,KbU,KaA,GC,ZG,Kbm,.dead] 1 (fr 65 [(6,(.cQ 3 1 2 [([0],1)]))]) [ZG,KbU,KaA,GC,ZG,Kbm,.dead]:=⟨_,rfl,by decide +kernel,by decide +kernel,qY.of (L:=999) (by decide +kernel) (fun B hB=>by cases hB)⟩
abbrev B0 (S:bL):Mc.bX:=.cells 31 10 [[.i S.aB,.i S.aD,.lit 1 (aA S.weights),.lit 1 (aO S.methods),.lit 1 (aO S.cP),.lit 8 (aN S.bG),.lit 8 (gH S.aH),.lit 9 (cR S.aM),.lit 6 (gG S.bK),.i S.done]]
abbrev B2 (S:bL) (refs:List Int) (basis:Int) (zs:List (List AV)):List Mc.bX:=[B0 S,.cells 3 1 [[.i basis]],.cells 3 1 zs,.cells 22 1 [[.own 3 1 2 0 refs.length]]]
abbrev B5 (S:bL) (refs:List Int) (basis:Int) (zs:List (List AV)):List Mc.bX:=B2 S refs basis zs++[B0 S,.cells 22 1 [[.lit 1 (aA refs)]]]
abbrev fR (refs:List Int):List AV:=wF (.lit 1 (aA refs)) [(7,.ptr 1 3 0 0),(15,.fn (.func 104) [] Kax)]
noncomputable abbrev sG (refs:List Int):Mc.bX:=.lp .ready (fR refs) #[16,17] wAs wBd
theorem afo:∃i z zc,Tryz.prog.info? 3=some i∧i.zero=some z∧fG (Mg z)=some zc∧zc=[.i 0]∧i.size=1∧i.bytes=8:=⟨_,_,_,rfl,rfl,rfl,rfl,rfl,rfl⟩
theorem ajm [Bk] [Ev] {S:bL} {refs:List Int} {basis:Int} (h60:refs.length≤60) :
  fT Tryz.prog true w1 (fun e f h=>e=.normal∧OY [1,3,5,6,7] f=wF (.lit 1 (aA refs)) [(7,.ptr 1 3 0 0)]∧h=eS (B2 S refs basis (aA (List.replicate refs.length 0)))) (wF (.lit 1 (aA refs)) []) (eS [B0 S,.cells 3 1 [[.i basis]]]):=by
 rw[show w1=.region 1 (amb w1) false from by kernel_rfl]
 refine fT.region ?_
 rw[show List.range (amb w1).size=[0,1,2,3,4]from by kernel_rfl]
 obtain⟨i,z,zc,hi,hz,hzc,rfl,hsz,hby⟩:=afo;refine gO.cons rfl rfl (cL.step (LY (nx:=2) rfl)) ?_
 rintro _ _ ⟨rfl,rfl⟩
 refine gO.cons rfl rfl (cL.step (LY (nx:=2) rfl)) ?_
 rintro _ _ ⟨rfl,rfl⟩
 have hlen:(aA refs).length=refs.length:=by simp[aA]
 refine gO.cons rfl rfl (cL.step (AF (nx:=2) (l:=((aA refs).length:Int)) (c:=((aA refs).length:Int)) rfl rfl hi hz hzc (by rw[hsz];rfl) rfl rfl (by omega) (by omega) (by rw[hby];omega) (by omega) rfl)) ?_
 rintro _ _ ⟨rfl,rfl⟩
 rw[hsz];refine gO.cons rfl rfl (cL.step (LY (nx:=3) rfl)) ?_
 rintro _ _ ⟨rfl,rfl⟩
 refine gO.cons rfl rfl (cL.step (LY (nx:=4) rfl)) ?_
 rintro _ _ ⟨rfl,rfl⟩
 refine gO.nil ⟨rfl,by kernel_rfl,?_⟩
 rw[hlen,Int.toNat_natCast];have e3:(aA (List.replicate refs.length 0))=List.replicate refs.length [.i 0]:=by simp[aA]
 refine Eq.trans (b:=dW (dW (dW (eS [B0 S,.cells 3 1 [[.i basis]]]) [(2,.cells 3 1 (List.replicate refs.length [.i 0]))]) [(3,?x)]) [(3,.cells 22 1 [[.own 3 1 2 0 refs.length]])]) ?_ ?_
 rotate_left
 ·rfl
 ·rw[Ig (n:=2) [_,_] _ rfl,adp (n:=3) ([_,_]++[_]) _ _ rfl,←e3];rfl
abbrev F9 (S:bL) (basis:Int) (refs:List Int) (j:Nat):List Int:=(refs.take j).map (cJ S basis)++List.replicate (refs.length-j) 0
theorem PI {S:bL} {basis:Int} {refs:List Int} {j:Nat} (hj:j≤refs.length):(F9 S basis refs j).length=refs.length:=by simp;omega
theorem aar {S:bL} {basis:Int} {refs:List Int} {j:Nat} (hj:j<refs.length):(F9 S basis refs j)[(j:Int).toNat]?=some 0:=by
 have e:((refs.take j).map (cJ S basis)).length=j:=by simp;omega
 rw[Int.toNat_natCast,List.getElem?_append_right (by rw[e];exact Nat.le_refl _),e,Nat.sub_self,List.getElem?_replicate,if_pos (by omega)]
theorem PH {S:bL} {basis:Int} {refs:List Int} {j:Nat} {k:Int} (hk:refs[j]?=some k):(F9 S basis refs j).set j (cJ S basis k)=F9 S basis refs (j+1):=by
 have hj:j<refs.length:=(List.getElem?_eq_some_iff.1 hk).1
 have e:((refs.take j).map (cJ S basis)).length=j:=by simp;omega
 unfold F9;rw[List.set_append_right _ _ (by rw[e];exact Nat.le_refl _),e,Nat.sub_self,show refs.length-j=(refs.length-(j+1))+1 by omega,List.replicate_succ,List.set_cons_zero,List.take_add_one,hk]
 simp
theorem abN {S:bL} {basis:Int} {refs:List Int} {j:Nat} {k:Int} (hk:refs[j]?=some k) (h0:cJ S basis k=0):F9 S basis refs j=F9 S basis refs (j+1):=by
 rw[←PH hk,h0];apply List.ext_getElem?
 intro i;rw[List.getElem?_set];split
 ·rename_i h;subst h
  have hj:j<refs.length:=(List.getElem?_eq_some_iff.1 hk).1
  rw[if_pos (by rw[PI (by omega)];exact hj)]
  have:=aar (S:=S) (basis:=basis) hj
  rw[Int.toNat_natCast]at this;exact this
 ·rfl
theorem amz {zs:List Int} {j:Nat} {v:Int}:(aA zs).set (j:Int).toNat [.i v]=aA (zs.set j v):=by
 rw[Int.toNat_natCast];simp[aA,List.map_set]
abbrev ak2 (S:bL) (basis:Int) (refs:List Int) (n:Nat) (f:List AV) (h:AH):Prop:=∃j:Nat,n=refs.length-j∧j≤refs.length∧f=iF (.lit 1 (aA refs)) (.i refs.length) (.i (j:Int))∧h=eS (B5 S refs basis (aA (F9 S basis refs j))++[sG refs])
attribute [local instance] dI dN
theorem Te {S:bL} (G:Gn S) (hw:∀v∈S.weights,0≤v∧v≤1073741824) {refs:List Int} {basis:Int} (h60:refs.length≤60) (hI:eH refs) (hb:jY basis) :
  @dL dI dN Tryz.prog 104 [.rN 6,.ptr 1 5 0 0,.ptr 10 4 0 0] (eS (B5 S refs basis (aA (List.replicate refs.length 0))++[sG refs])) (fun _ h'=>h'=eS (B5 S refs basis (aA (refs.map (cJ S basis)))++[sG refs])):=by
 have hg:∀g∈S.aH,(0≤g.item∧g.item<S.weights.length)∧0≤g.eT∧g.eT≤1073741824:=by
  intro g hg;obtain⟨b1,b2,b3,b4,b5⟩:=G.FM g hg;exact⟨b2,by omega,b4.2⟩
 have PF:=G.IM;have hwl:=G.hw;refine dL.gY (c:=iB) Tryz.func104 (by kernel_rfl) ?_
 rw[Tryz.ntmps104,al6];obtain⟨zs,hzs⟩:∃zs,zs=List.replicate refs.length (0:Int):=⟨_,rfl⟩
 have hzl:zs.length=refs.length:=by rw[hzs];simp
 rw[←hzs];refine fT.seq ((alE.NL (ev1 _ [(refs.length:Int)] [.I S.aB,.I S.aD,.I S.done,.I basis] (sT S [aA refs,aA zs]) .nil) (xK kn) (fc:=[.rN 6,.ptr 1 5 0 0,.ptr 10 4 0 0]++List.replicate 32 .undef) (bc:=B5 S refs basis (aA zs)++[sG refs]) (fd:=iF (.lit 1 (aA refs)) (.i refs.length) (.i 0)) (bd:=B5 S refs basis (aA zs)++[sG refs])).mono ?_)
 rintro _ _ _ ⟨rfl,rfl,rfl⟩
 refine fT.block (fT.loop (ak2 S basis refs) refs.length ⟨0,by omega,by omega,rfl,by rw[hzs];rfl⟩ ?_)
 clear hzl hzs zs;rintro n f h ⟨j,rfl,hj,rfl,rfl⟩
 obtain⟨zs,hzs⟩:∃zs,zs=F9 S basis refs j:=⟨_,rfl⟩
 have hzl:zs.length=refs.length:=by rw[hzs];exact PI hj
 rw[←hzs];rcases(by omega:j=refs.length∨j<refs.length)with rfl|hlt
 ·refine(alD.NL (ev1 _ [(refs.length:Int)] [.I S.aB,.I S.aD,.I S.done,.I basis] (sT S [aA refs,aA zs]) .nil) (xK kn) (fc:=iF (.lit 1 (aA refs)) (.i refs.length) (.i refs.length)) (bc:=B5 S refs basis (aA zs)++[sG refs]) (fd:=iF (.lit 1 (aA refs)) (.i refs.length) (.i refs.length)) (bd:=B5 S refs basis (aA zs)++[sG refs])).mono ?_
  rintro _ _ _ ⟨rfl,rfl,rfl⟩
  refine⟨_,rfl,?_⟩
  rw[hzs,show F9 S basis refs refs.length=refs.map (cJ S basis)by unfold F9;simp]
 ·obtain⟨k,hk0⟩:∃k,refs[j]?=some k:=⟨_,List.getElem?_eq_getElem hlt⟩
  have hk:refs[(j:Int).toNat]?=some k:=by simpa using hk0
  have hki:=hI k (List.mem_of_getElem? hk0)
  have:=hki.lo;have:=hki.hi;have:=hb.lo;have:=hb.hi
  have hz:zs[(j:Int).toNat]?=some 0:=by rw[hzs];exact aar hlt
  have fin1:∀v,v=cJ S basis k→∀(e:Exit) f h,e=.normal∧f=iF (.lit 1 (aA refs)) (.i refs.length) (.i (1+(j:Int)))∧h=eS (B5 S refs basis ((aA zs).set (j:Int).toNat [.i v])++[sG refs])→aaz (fun f' h'=>∃n',n'<refs.length-j∧ak2 S basis refs n' f' h') (wV 0 (af7 Tryz.prog Tryz.f104 fun _ h'=>h'=eS (B5 S refs basis (aA (refs.map (cJ S basis)))++[sG refs]))) e f h:=by
   rintro v rfl _ _ _ ⟨rfl,rfl,rfl⟩
   refine⟨_,by omega,j+1,rfl,by omega,?_,?_⟩
   ·rw[show(1+(j:Int))=((j+1:Nat):Int)by omega]
   ·rw[amz,hzs,PH hk0]
  have fin0:cJ S basis k=0→∀(e:Exit) f h,e=.normal∧f=iF (.lit 1 (aA refs)) (.i refs.length) (.i (1+(j:Int)))∧h=eS (B5 S refs basis (aA zs)++[sG refs])→aaz (fun f' h'=>∃n',n'<refs.length-j∧ak2 S basis refs n' f' h') (wV 0 (af7 Tryz.prog Tryz.f104 fun _ h'=>h'=eS (B5 S refs basis (aA (refs.map (cJ S basis)))++[sG refs]))) e f h:=by
   rintro h0 _ _ _ ⟨rfl,rfl,rfl⟩
   refine⟨_,by omega,j+1,rfl,by omega,?_,?_⟩
   ·rw[show(1+(j:Int))=((j+1:Nat):Int)by omega]
   ·rw[hzs,abN hk0 h0]
  by_cases hneg:k<0
  ·skip
   rcases(by omega:basis=0∨basis=1∨basis=2∨basis<0∨2<basis)with hbs|hbs|hbs|hbs|hbs
   ·subst hbs
    refine(ajJ.NL (ev1 _ [(refs.length:Int),(j:Int),(S.aH.length:Int),k] [.I S.aB,.I S.aD,.I S.done] (sT S [aA refs,aA zs]) (.d (aI hk) (.d (aI hz) .nil))) (xK kn) (fc:=iF (.lit 1 (aA refs)) (.i refs.length) (.i (j:Int))) (bc:=B5 S refs 0 (aA zs)++[sG refs]) (fd:=iF (.lit 1 (aA refs)) (.i refs.length) (.i (1+(j:Int)))) (bd:=B5 S refs 0 ((aA zs).set (j:Int).toNat [.i (0)])++[sG refs])).mono ?_
    exact fin1 _ (by unfold cJ;rw[if_pos hneg])
   ·subst hbs
    refine(ajI.NL (ev1 _ [(refs.length:Int),(j:Int),(S.aH.length:Int),k] [.I S.aB,.I S.aD,.I S.done] (sT S [aA refs,aA zs]) (.d (aI hk) (.d (aI hz) .nil))) (xK kn) (fc:=iF (.lit 1 (aA refs)) (.i refs.length) (.i (j:Int))) (bc:=B5 S refs 1 (aA zs)++[sG refs]) (fd:=iF (.lit 1 (aA refs)) (.i refs.length) (.i (1+(j:Int)))) (bd:=B5 S refs 1 ((aA zs).set (j:Int).toNat [.i (0)])++[sG refs])).mono ?_
    exact fin1 _ (by unfold cJ;rw[if_pos hneg])
   ·subst hbs
    refine(ajH.NL (ev1 _ [(refs.length:Int),(j:Int),(S.aH.length:Int),k] [.I S.aB,.I S.aD,.I S.done] (sT S [aA refs,aA zs]) (.d (aI hk) .nil)) (xK kn) (fc:=iF (.lit 1 (aA refs)) (.i refs.length) (.i (j:Int))) (bc:=B5 S refs 2 (aA zs)++[sG refs]) (fd:=iF (.lit 1 (aA refs)) (.i refs.length) (.i (1+(j:Int)))) (bd:=B5 S refs 2 (aA zs)++[sG refs])).mono ?_
    exact fin0 (by unfold cJ;rw[if_pos hneg])
   ·refine(agJ.NL (ev1 _ [(refs.length:Int),(j:Int),(S.aH.length:Int),k,basis] [.I S.aB,.I S.aD,.I S.done] (sT S [aA refs,aA zs]) (.d (aI hk) .nil)) (xK kn) (fc:=iF (.lit 1 (aA refs)) (.i refs.length) (.i (j:Int))) (bc:=B5 S refs basis (aA zs)++[sG refs]) (fd:=iF (.lit 1 (aA refs)) (.i refs.length) (.i (1+(j:Int)))) (bd:=B5 S refs basis (aA zs)++[sG refs])).mono ?_
    exact fin0 (by unfold cJ;rw[if_pos hneg])
   ·refine(agK.NL (ev1 _ [(refs.length:Int),(j:Int),(S.aH.length:Int),k,basis] [.I S.aB,.I S.aD,.I S.done] (sT S [aA refs,aA zs]) (.d (aI hk) .nil)) (xK kn) (fc:=iF (.lit 1 (aA refs)) (.i refs.length) (.i (j:Int))) (bc:=B5 S refs basis (aA zs)++[sG refs]) (fd:=iF (.lit 1 (aA refs)) (.i refs.length) (.i (1+(j:Int)))) (bd:=B5 S refs basis (aA zs)++[sG refs])).mono ?_
    exact fin0 (by unfold cJ;rw[if_pos hneg])
  cases hg0:S.aH[k.toNat]? with
  |none =>
   have:=List.getElem?_eq_none_iff.1 hg0
   rcases(by omega:basis=0∨basis=1∨basis=2∨basis<0∨2<basis)with hbs|hbs|hbs|hbs|hbs
   ·subst hbs
    refine(ajM.NL (ev1 _ [(refs.length:Int),(j:Int),(S.aH.length:Int),k] [.I S.aB,.I S.aD,.I S.done] (sT S [aA refs,aA zs]) (.d (aI hk) (.d (aI hz) .nil))) (xK kn) (fc:=iF (.lit 1 (aA refs)) (.i refs.length) (.i (j:Int))) (bc:=B5 S refs 0 (aA zs)++[sG refs]) (fd:=iF (.lit 1 (aA refs)) (.i refs.length) (.i (1+(j:Int)))) (bd:=B5 S refs 0 ((aA zs).set (j:Int).toNat [.i (0)])++[sG refs])).mono ?_
    exact fin1 _ (by unfold cJ;rw[if_neg hneg,hg0])
   ·subst hbs
    refine(ajL.NL (ev1 _ [(refs.length:Int),(j:Int),(S.aH.length:Int),k] [.I S.aB,.I S.aD,.I S.done] (sT S [aA refs,aA zs]) (.d (aI hk) (.d (aI hz) .nil))) (xK kn) (fc:=iF (.lit 1 (aA refs)) (.i refs.length) (.i (j:Int))) (bc:=B5 S refs 1 (aA zs)++[sG refs]) (fd:=iF (.lit 1 (aA refs)) (.i refs.length) (.i (1+(j:Int)))) (bd:=B5 S refs 1 ((aA zs).set (j:Int).toNat [.i (0)])++[sG refs])).mono ?_
    exact fin1 _ (by unfold cJ;rw[if_neg hneg,hg0])
   ·subst hbs
    refine(ajK.NL (ev1 _ [(refs.length:Int),(j:Int),(S.aH.length:Int),k] [.I S.aB,.I S.aD,.I S.done] (sT S [aA refs,aA zs]) (.d (aI hk) .nil)) (xK kn) (fc:=iF (.lit 1 (aA refs)) (.i refs.length) (.i (j:Int))) (bc:=B5 S refs 2 (aA zs)++[sG refs]) (fd:=iF (.lit 1 (aA refs)) (.i refs.length) (.i (1+(j:Int)))) (bd:=B5 S refs 2 (aA zs)++[sG refs])).mono ?_
    exact fin0 (by unfold cJ;rw[if_neg hneg,hg0])
   ·refine(agL.NL (ev1 _ [(refs.length:Int),(j:Int),(S.aH.length:Int),k,basis] [.I S.aB,.I S.aD,.I S.done] (sT S [aA refs,aA zs]) (.d (aI hk) .nil)) (xK kn) (fc:=iF (.lit 1 (aA refs)) (.i refs.length) (.i (j:Int))) (bc:=B5 S refs basis (aA zs)++[sG refs]) (fd:=iF (.lit 1 (aA refs)) (.i refs.length) (.i (1+(j:Int)))) (bd:=B5 S refs basis (aA zs)++[sG refs])).mono ?_
    exact fin0 (by unfold cJ;rw[if_neg hneg,hg0])
   ·refine(agM.NL (ev1 _ [(refs.length:Int),(j:Int),(S.aH.length:Int),k,basis] [.I S.aB,.I S.aD,.I S.done] (sT S [aA refs,aA zs]) (.d (aI hk) .nil)) (xK kn) (fc:=iF (.lit 1 (aA refs)) (.i refs.length) (.i (j:Int))) (bc:=B5 S refs basis (aA zs)++[sG refs]) (fd:=iF (.lit 1 (aA refs)) (.i refs.length) (.i (1+(j:Int)))) (bd:=B5 S refs basis (aA zs)++[sG refs])).mono ?_
    exact fin0 (by unfold cJ;rw[if_neg hneg,hg0])
  |some g =>
   have hlt2:=(List.getElem?_eq_some_iff.1 hg0).1
   have hgm:=hg g (List.mem_of_getElem? hg0)
   have hg0':S.aH[k.toNat]?=some ⟨g.aU,g.item,g.loc,g.eT,g.value,g.rC,g.bZ,g.back⟩:=hg0
   have hW:cJ S basis k=if basis=0 then g.eT else if basis=1 then g.value else if basis=2 then g.eT*S.weights.getD g.item.toNat 0 else 0:=by unfold cJ;rw[if_neg hneg,hg0]
   rcases(by omega:basis=0∨basis=1∨basis=2∨basis<0∨2<basis)with hbs|hbs|hbs|hbs|hbs
   ·subst hbs
    refine(ajG.NL (ev1 _ [(refs.length:Int),(j:Int),(S.aH.length:Int),k] [.I S.aB,.I S.aD,.I S.done,.I g.aU,.I g.item,.I g.loc,.I g.eT,.I g.value,.I g.rC,.I g.bZ,.I g.back] (sT S [aA refs,aA zs]) (.d (aI hk) (.d (aC hg0') (.d (aI hz) .nil)))) (xK kn) (fc:=iF (.lit 1 (aA refs)) (.i refs.length) (.i (j:Int))) (bc:=B5 S refs 0 (aA zs)++[sG refs]) (fd:=iF (.lit 1 (aA refs)) (.i refs.length) (.i (1+(j:Int)))) (bd:=B5 S refs 0 ((aA zs).set (j:Int).toNat [.i (g.eT)])++[sG refs])).mono ?_
    exact fin1 _ (by rw[hW];rfl)
   ·subst hbs
    refine(ajF.NL (ev1 _ [(refs.length:Int),(j:Int),(S.aH.length:Int),k] [.I S.aB,.I S.aD,.I S.done,.I g.aU,.I g.item,.I g.loc,.I g.eT,.I g.value,.I g.rC,.I g.bZ,.I g.back] (sT S [aA refs,aA zs]) (.d (aI hk) (.d (aC hg0') (.d (aI hz) .nil)))) (xK kn) (fc:=iF (.lit 1 (aA refs)) (.i refs.length) (.i (j:Int))) (bc:=B5 S refs 1 (aA zs)++[sG refs]) (fd:=iF (.lit 1 (aA refs)) (.i refs.length) (.i (1+(j:Int)))) (bd:=B5 S refs 1 ((aA zs).set (j:Int).toNat [.i (g.value)])++[sG refs])).mono ?_
    exact fin1 _ (by rw[hW];rfl)
   ·subst hbs
    obtain⟨x,hxe⟩:∃x,x=S.weights.getD g.item.toNat 0:=⟨_,rfl⟩
    have hx:S.weights[g.item.toNat]?=some x:=by rw[hxe];exact getD_some (by omega)
    have hxb:=hw x (List.mem_of_getElem? hx)
    rw[←hxe]at hW;refine(ajE.NL (ev1 _ [(refs.length:Int),(j:Int),(S.aH.length:Int),k,(S.weights.length:Int),g.item,g.eT,x] [.I S.aB,.I S.aD,.I S.done,.I g.aU,.I g.item,.I g.loc,.I g.eT,.I g.value,.I g.rC,.I g.bZ,.I g.back] (sT S [aA refs,aA zs]) (.d (aI hk) (.d (aI hx) (.d (aC hg0') (.d (aI hz) .nil))))) (xK kn) (fc:=iF (.lit 1 (aA refs)) (.i refs.length) (.i (j:Int))) (bc:=B5 S refs 2 (aA zs)++[sG refs]) (fd:=iF (.lit 1 (aA refs)) (.i refs.length) (.i (1+(j:Int)))) (bd:=B5 S refs 2 ((aA zs).set (j:Int).toNat [.i (1*(g.eT*(x*1)))])++[sG refs])).mono ?_
    exact fin1 _ (by rw[hW,Int.one_mul,Int.mul_one];rfl)
   ·refine(agH.NL (ev1 _ [(refs.length:Int),(j:Int),(S.aH.length:Int),k,basis] [.I S.aB,.I S.aD,.I S.done,.I g.aU,.I g.item,.I g.loc,.I g.eT,.I g.value,.I g.rC,.I g.bZ,.I g.back] (sT S [aA refs,aA zs]) (.d (aI hk) (.d (aC hg0') .nil))) (xK kn) (fc:=iF (.lit 1 (aA refs)) (.i refs.length) (.i (j:Int))) (bc:=B5 S refs basis (aA zs)++[sG refs]) (fd:=iF (.lit 1 (aA refs)) (.i refs.length) (.i (1+(j:Int)))) (bd:=B5 S refs basis (aA zs)++[sG refs])).mono ?_
    exact fin0 (by rw[hW,if_neg (by omega),if_neg (by omega),if_neg (by omega)])
   ·refine(agI.NL (ev1 _ [(refs.length:Int),(j:Int),(S.aH.length:Int),k,basis] [.I S.aB,.I S.aD,.I S.done,.I g.aU,.I g.item,.I g.loc,.I g.eT,.I g.value,.I g.rC,.I g.bZ,.I g.back] (sT S [aA refs,aA zs]) (.d (aI hk) (.d (aC hg0') .nil))) (xK kn) (fc:=iF (.lit 1 (aA refs)) (.i refs.length) (.i (j:Int))) (bc:=B5 S refs basis (aA zs)++[sG refs]) (fd:=iF (.lit 1 (aA refs)) (.i refs.length) (.i (1+(j:Int)))) (bd:=B5 S refs basis (aA zs)++[sG refs])).mono ?_
    exact fin0 (by rw[hW,if_neg (by omega),if_neg (by omega),if_neg (by omega)])
end LW
attribute [local instance] dI dN
open LW in
theorem Er {S:bL} (G:Gn S) (hw:∀v∈S.weights,0≤v∧v≤1073741824) {refs:List Int} {basis:Int} (h60:refs.length≤60) (hI:eH refs) (hb:jY basis) :
  Ck 27 [S.av,.lit 1 (aA refs),.i basis] (.lit 1 (aA (refs.map (cJ S basis)))):=by
 refine CK.acy (Fh.out) (yC.out) ?_
 refine dL.gY (c:=wB) Tryz.func27 (by kernel_rfl) ?_
 rw[Tryz.ntmps27,ak5];refine fT.seq ((alC.NL (ev1 _ [(refs.length:Int)] [.I S.aB,.I S.aD,.I S.done,.I basis] (sT S [aA refs]) .nil) (xK kn) (fc:=[S.av,.lit 1 (aA refs),.i basis]++List.replicate 62 .undef) (bc:=[]) (fd:=wF (.lit 1 (aA refs)) []) (bd:=[B0 S,Mc.bX.cells 3 1 [[.i basis]]])).mono ?_)
 rintro _ _ _ ⟨rfl,rfl,rfl⟩
 refine fT.seq ((ajm (S:=S) (basis:=basis) h60).mono ?_)
 rintro _ f _ ⟨rfl,hf,rfl⟩
 refine fT.acK [1,3,5,6,7] ?_
 rw[hf];obtain⟨zs,hzs⟩:∃zs,zs=List.replicate refs.length (0:Int):=⟨_,rfl⟩
 have hzl:zs.length=refs.length:=by rw[hzs];simp
 rw[←hzs];refine fT.seq (fT.seq ((alB.NL (ev1 _ [(refs.length:Int)] [.I S.aB,.I S.aD,.I S.done,.I basis] (sT S [aA refs,aA zs]) .nil) (xK kn) (fc:=wF (.lit 1 (aA refs)) [(7,.ptr 1 3 0 0)]) (bc:=B2 S refs basis (aA zs)) (fd:=fR refs) (bd:=B5 S refs basis (aA zs))).mono ?_))
 rintro _ _ _ ⟨rfl,rfl,rfl⟩
 refine fT.block (fT.rangeFunc (id:=6) (captured:=Kax) rfl Tryz.func104 (c:=iB) (by kernel_rfl) (by kernel_rfl) rfl ?_)
 rw[show Mc.cH (eS (B5 S refs basis (aA zs))) 6 (.lp .ready (fR refs) #[16,17] wAs wBd)=eS (B5 S refs basis (aA zs)++[sG refs])from Ig _ _ rfl,hzs]
 refine(Te G hw h60 hI hb).mono ?_
 rintro _ _ rfl
 clear hf hzl hzs zs f;obtain⟨zs,hzs⟩:∃zs,zs=refs.map (cJ S basis):=⟨_,rfl⟩
 have hzl:zs.length=refs.length:=by rw[hzs];simp
 rw[←hzs];show fT Tryz.prog true w3 _ (fR refs) (Mc.cH (eS (B5 S refs basis (aA zs)++[sG refs])) 6 .dead)
 rw[ahH _ _ (show 6<(B5 S refs basis (aA zs)++[sG refs]).length from Nat.lt_succ_self 6)]
 refine(alA.NL (ev1 _ [(refs.length:Int)] [.I S.aB,.I S.aD,.I S.done,.I basis] (sT S [aA refs,aA zs]) .nil) (xK kn) (fc:=fR refs) (bc:=B5 S refs basis (aA zs)++[.dead]) (fd:=fr 65 [(6,.own 3 1 2 0 refs.length)]) (bd:=B5 S refs basis (aA zs)++[.dead])).mono ?_
 rintro _ _ _ ⟨rfl,rfl,rfl⟩
 exact⟨_,rfl,[2],afv rfl hzl.symm⟩
end
section
open Mc
abbrev laA:Bk:={ ext:=[(148,[qI 10,qI 10,qI 1],[qI 100,qI 0,qI 0])] }
set_option maxRecDepth 1000000 in
theorem OX:uR (@zV laA Tryz.prog 100000 60 23 [] .leaf 0)=true:=by decide +kernel
theorem afj (w:World):Calls Tryz.prog 23 #[] w fun e w'=>e=.returned (.bool true)∧Below w.heap.size w w':=by
 let _:Bk:=laA
 let E:Ev:=amE laA [] rfl .nil .nil
 refine ajk laA E OX (.cons (ahL (fun w=>?_) (by decide)) .nil) .nil .nil [] rfl w .nil
 simp only[List.map_cons,List.map_nil,oE];exact ae4 w (by omega) (by omega) (by omega) (by omega) (by omega) (by omega) (by omega) (by omega) (by omega) (by omega)
end
end Go.Proofs.YtnepgggkgnckcaaGreat
