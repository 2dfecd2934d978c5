/-
 The law PoolPlays. (Printed by wip/mkw.py out of wip/src/XPPl.src, wip/paths/ppseg.py.)
-/
import Derived.Test.YtjccjmmbebiegaaKR
import Derived.Test.YtjccjmmbebiegaaOne
set_option linter.unusedVariables false
set_option linter.unusedSimpArgs false
namespace Go.Proofs.Ytjccjmmbebiegaa
open Go.RowKit Mc
set_option maxRecDepth 1000000
namespace PP
abbrev ppF (z m c x y i:AV):List AV:=fr 221 [(2,z),(6,.c (.bool false)),(7,m),(8,c),(9,.ptr 4 0 0 0),(10,.ptr 4 1 0 0),(11,x),(12,y),(13,i)]
abbrev ppB (L:List Lay) (d:Pnd):List Mc.Blk:=[.cells 26 4 [[.lit 3 (laysR L),.i d.a,.i d.b,.i d.c]],.cells 26 4 [[.lit 3 (laysR L),.i d.a,.i d.b,.i d.c]]]
noncomputable def body:Code:=(Try.f6).body.getD .skip
abbrev p_PPA (c:Code) (r:Option (RT Out)):Prop:=SegA { vars:=[(0,9223372036854775807),(0,3),(0,59)],lens:=[(0,[([0],1)])],extV:=[(7,[.o 0,.i 4],(.v 1)),(7,[.o 1,.i 60],(.v 2))] } c ([.o 0,.o 1,.q 1 0]++List.replicate 218 .undef) [] [some 0,some 1] (ppF (.q 1 0) (.e [([],1),([1],1)]) (.v 2) (.i 0) (.i 0) (.i 0)) [(.cells 26 4 [[(.lit 3 []),.i 0,.i 0,.i 0]]),(.cells 26 4 [[(.lit 3 []),.i 0,.i 0,.i 0]])] r
noncomputable def s_PPA:Option (RT Out):=rnA { vars:=[(0,9223372036854775807),(0,3),(0,59)],lens:=[(0,[([0],1)])],extV:=[(7,[.o 0,.i 4],(.v 1)),(7,[.o 1,.i 60],(.v 2))] } body ([.o 0,.o 1,.q 1 0]++List.replicate 218 .undef:List AV).length ([.o 0,.o 1,.q 1 0]++List.replicate 218 .undef) [] 0
theorem t_PPA:p_PPA body s_PPA:=⟨rfl,by decide +kernel,by decide +kernel⟩
abbrev p_PPIe (c:Code):Prop:=SegD { vars:=[(0,9223372036854775807),(1,4),(0,59),(0,100000),(-576460752303423488,576460752303423488),(0,79),(0,1073741823),(0,3),(0,1073741824),(0,19),(0,1073741824),(0,499),(0,1073741824),(0,99),(-576460752303423488,576460752303423488),(1,20),(0,288230376151711744)],facts:=[([([0],1),([5],-1)],1,9223372036854775807),([([3],1),([4],-1),([16],-1)],0,0)],defs:=[(1,[([6],1)],[([],8)],[([7],1)]),(0,[([6],1)],[([],8)],[([8],1)]),(1,[([8],1)],[([],20)],[([9],1)]),(0,[([6],1)],[([],160)],[([10],1)]),(1,[([10],1)],[([],500)],[([11],1)]),(0,[([6],1)],[([],80000)],[([12],1)]),(1,[([12],1)],[([],100)],[([13],1)])],lens:=[(0,[([0],1)])],ats:=[(0,[([5],1)],[.o 3])],extV:=[(7,[.o 3,.i 1073741824],(.v 6)),(16,[.v 1,.v 2,(.agg [.q 3 1,.o 0,.o 1,.o 2]),(.agg [(.e [([],1),([9],1)]),.v 11,(.e [([],-50),([13],1)])])],(.tup [(.agg [.q 3 1,.o 0,.o 1,.o 2]),.v 14,.v 15])),(20,[.v 1,.v 2,(.agg [.q 3 1,.o 0,.o 1,.o 2]),(.agg [(.e [([],1),([9],1)]),.v 11,(.e [([],-50),([13],1)])])],(.tup [(.agg [.q 3 1,.o 0,.o 1,.o 2]),.v 14,.v 15])),(21,[(.agg [.q 3 1,.o 0,.o 1,.o 2]),(.agg [.q 3 1,.o 0,.o 1,.o 2])],(.c (.bool true))),(18,[.v 1,(.agg [.q 3 1,.o 0,.o 1,.o 2])],(.c (.bool true))),(26,[(.agg [.q 3 1,.o 0,.o 1,.o 2])],(.agg [.o 4,.v 16,.o 5]))] } c (ppF (.q 1 0) (.v 1) (.v 2) (.v 3) (.v 4) (.v 5)) [(.cells 26 4 [[.q 3 1,.o 0,.o 1,.o 2]]),(.cells 26 4 [[.q 3 1,.o 0,.o 1,.o 2]])] 0 [some 0,some 1] (ppF (.q 1 0) (.v 1) (.v 2) (.v 3) (.v 4) (.e [([],1),([5],1)])) [(.cells 26 4 [[.q 3 1,.o 0,.o 1,.o 2]]),(.cells 26 4 [[.q 3 1,.o 0,.o 1,.o 2]])]
theorem t_PPIe:p_PPIe (oCode s_PPA):=⟨_,rfl,by decide +kernel,by decide +kernel⟩
abbrev p_PPIk (c:Code):Prop:=SegD { vars:=[(0,9223372036854775807),(1,4),(0,59),(0,100000),(-576460752303423488,576460752303423488),(0,79),(0,1073741823),(0,3),(0,1073741824),(0,19),(0,1073741824),(0,499),(0,1073741824),(0,99),(-576460752303423488,576460752303423488),(0,288230376151711744)],facts:=[([([0],1),([5],-1)],1,9223372036854775807),([([3],1),([4],-1),([11],1),([14],-1),([15],-1)],0,0)],defs:=[(1,[([6],1)],[([],8)],[([7],1)]),(0,[([6],1)],[([],8)],[([8],1)]),(1,[([8],1)],[([],20)],[([9],1)]),(0,[([6],1)],[([],160)],[([10],1)]),(1,[([10],1)],[([],500)],[([11],1)]),(0,[([6],1)],[([],80000)],[([12],1)]),(1,[([12],1)],[([],100)],[([13],1)])],lens:=[(0,[([0],1)])],ats:=[(0,[([5],1)],[.o 3])],extV:=[(7,[.o 3,.i 1073741824],(.v 6)),(16,[.v 1,.v 2,(.agg [.q 3 1,.o 0,.o 1,.o 2]),(.agg [(.e [([],1),([9],1)]),.v 11,(.e [([],-50),([13],1)])])],(.tup [(.agg [.q 3 2,.o 0,.o 1,.o 2]),.v 14,.i 0])),(20,[.v 1,.v 2,(.agg [.q 3 1,.o 0,.o 1,.o 2]),(.agg [(.e [([],1),([9],1)]),.v 11,(.e [([],-50),([13],1)])])],(.tup [(.agg [.q 3 2,.o 0,.o 1,.o 2]),.v 14,.i 0])),(21,[(.agg [.q 3 2,.o 0,.o 1,.o 2]),(.agg [.q 3 2,.o 0,.o 1,.o 2])],(.c (.bool true))),(18,[.v 1,(.agg [.q 3 2,.o 0,.o 1,.o 2])],(.c (.bool true))),(26,[(.agg [.q 3 2,.o 0,.o 1,.o 2])],(.agg [.o 4,.v 15,.o 5]))] } c (ppF (.q 1 0) (.v 1) (.v 2) (.v 3) (.v 4) (.v 5)) [(.cells 26 4 [[.q 3 1,.o 0,.o 1,.o 2]]),(.cells 26 4 [[.q 3 1,.o 0,.o 1,.o 2]])] 0 [some 0,some 1] (ppF (.q 1 0) (.v 1) (.v 2) (.e [([3],1),([11],1),([14],-1)]) (.v 4) (.e [([],1),([5],1)])) [(.cells 26 4 [[.q 3 2,.o 0,.o 1,.o 2]]),(.cells 26 4 [[.q 3 2,.o 0,.o 1,.o 2]])]
theorem t_PPIk:p_PPIk (oCode s_PPA):=⟨_,rfl,by decide +kernel,by decide +kernel⟩
abbrev p_PPOt (c:Code):Prop:=SegD { vars:=[(0,9223372036854775807),(1,4),(0,59),(0,100000),(-576460752303423488,576460752303423488),(0,79),(0,1073741823),(4,6),(0,1073741824),(0,19),(0,1073741824),(0,3),(-576460752303423488,576460752303423488),(-576460752303423488,576460752303423488),(-576460752303423488,576460752303423488),(0,20),(0,288230376151711744)],facts:=[([([0],1),([5],-1)],1,9223372036854775807),([([3],1),([4],-1),([13],-1),([16],-1)],0,0)],defs:=[(1,[([6],1)],[([],8)],[([7],1)]),(0,[([6],1)],[([],8)],[([8],1)]),(1,[([8],1)],[([],20)],[([9],1)]),(0,[([6],1)],[([],160)],[([10],1)]),(1,[([10],1)],[([],4)],[([11],1)])],lens:=[(0,[([0],1)])],ats:=[(0,[([5],1)],[.o 3])],extV:=[(7,[.o 3,.i 1073741824],(.v 6)),(17,[.v 1,.v 2,(.agg [.q 3 1,.o 0,.o 1,.o 2]),.v 11,(.e [([],1),([9],1)])],(.tup [(.agg [.q 3 2,.o 4,.o 5,.o 6]),(.agg [.v 12,.v 13,.v 14]),(.c (.bool true)),.v 15])),(22,[.v 1,.v 2,(.agg [.q 3 1,.o 0,.o 1,.o 2]),.v 11,(.e [([],1),([9],1)])],(.tup [(.agg [.q 3 2,.o 4,.o 5,.o 6]),(.agg [.v 12,.v 13,.v 14]),(.c (.bool true)),.v 15])),(21,[(.agg [.q 3 2,.o 4,.o 5,.o 6]),(.agg [.q 3 2,.o 4,.o 5,.o 6])],(.c (.bool true))),(18,[.v 1,(.agg [.q 3 2,.o 4,.o 5,.o 6])],(.c (.bool true))),(26,[(.agg [.q 3 2,.o 4,.o 5,.o 6])],(.agg [.o 7,.v 16,.o 8]))] } c (ppF (.q 1 0) (.v 1) (.v 2) (.v 3) (.v 4) (.v 5)) [(.cells 26 4 [[.q 3 1,.o 0,.o 1,.o 2]]),(.cells 26 4 [[.q 3 1,.o 0,.o 1,.o 2]])] 0 [some 0,some 1] (ppF (.q 1 0) (.v 1) (.v 2) (.v 3) (.e [([4],1),([13],1)]) (.e [([],1),([5],1)])) [(.cells 26 4 [[.q 3 2,.o 4,.o 5,.o 6]]),(.cells 26 4 [[.q 3 2,.o 4,.o 5,.o 6]])]
theorem t_PPOt:p_PPOt (oCode s_PPA):=⟨_,rfl,by decide +kernel,by decide +kernel⟩
abbrev p_PPOf (c:Code):Prop:=SegD { vars:=[(0,9223372036854775807),(1,4),(0,59),(0,100000),(-576460752303423488,576460752303423488),(0,79),(0,1073741823),(4,6),(0,1073741824),(0,19),(0,1073741824),(0,3),(-576460752303423488,576460752303423488),(-576460752303423488,576460752303423488),(-576460752303423488,576460752303423488),(0,20),(0,288230376151711744)],facts:=[([([0],1),([5],-1)],1,9223372036854775807),([([3],1),([4],-1),([13],-1),([16],-1)],0,0)],defs:=[(1,[([6],1)],[([],8)],[([7],1)]),(0,[([6],1)],[([],8)],[([8],1)]),(1,[([8],1)],[([],20)],[([9],1)]),(0,[([6],1)],[([],160)],[([10],1)]),(1,[([10],1)],[([],4)],[([11],1)])],lens:=[(0,[([0],1)])],ats:=[(0,[([5],1)],[.o 3])],extV:=[(7,[.o 3,.i 1073741824],(.v 6)),(17,[.v 1,.v 2,(.agg [.q 3 1,.o 0,.o 1,.o 2]),.v 11,(.e [([],1),([9],1)])],(.tup [(.agg [.q 3 2,.o 4,.o 5,.o 6]),(.agg [.v 12,.v 13,.v 14]),(.c (.bool false)),.v 15])),(22,[.v 1,.v 2,(.agg [.q 3 1,.o 0,.o 1,.o 2]),.v 11,(.e [([],1),([9],1)])],(.tup [(.agg [.q 3 2,.o 4,.o 5,.o 6]),(.agg [.v 12,.v 13,.v 14]),(.c (.bool false)),.v 15])),(21,[(.agg [.q 3 2,.o 4,.o 5,.o 6]),(.agg [.q 3 2,.o 4,.o 5,.o 6])],(.c (.bool true))),(18,[.v 1,(.agg [.q 3 2,.o 4,.o 5,.o 6])],(.c (.bool true))),(26,[(.agg [.q 3 2,.o 4,.o 5,.o 6])],(.agg [.o 7,.v 16,.o 8]))] } c (ppF (.q 1 0) (.v 1) (.v 2) (.v 3) (.v 4) (.v 5)) [(.cells 26 4 [[.q 3 1,.o 0,.o 1,.o 2]]),(.cells 26 4 [[.q 3 1,.o 0,.o 1,.o 2]])] 0 [some 0,some 1] (ppF (.q 1 0) (.v 1) (.v 2) (.v 3) (.e [([4],1),([13],1)]) (.e [([],1),([5],1)])) [(.cells 26 4 [[.q 3 2,.o 4,.o 5,.o 6]]),(.cells 26 4 [[.q 3 2,.o 4,.o 5,.o 6]])]
theorem t_PPOf:p_PPOf (oCode s_PPA):=⟨_,rfl,by decide +kernel,by decide +kernel⟩
abbrev p_PPRe (c:Code):Prop:=SegD { vars:=[(0,9223372036854775807),(1,4),(0,59),(0,100000),(-576460752303423488,576460752303423488),(0,79),(0,1073741823),(7,7),(0,1073741824),(0,19),(0,1073741824),(0,299),(1,20),(0,288230376151711744)],facts:=[([([0],1),([5],-1)],1,9223372036854775807),([([3],1),([4],-1),([13],-1)],0,0)],defs:=[(1,[([6],1)],[([],8)],[([7],1)]),(0,[([6],1)],[([],8)],[([8],1)]),(1,[([8],1)],[([],20)],[([9],1)]),(0,[([6],1)],[([],160)],[([10],1)]),(1,[([10],1)],[([],300)],[([11],1)])],lens:=[(0,[([0],1)])],ats:=[(0,[([5],1)],[.o 3])],extV:=[(7,[.o 3,.i 1073741824],(.v 6)),(24,[.v 1,(.agg [.q 3 1,.o 0,.o 1,.o 2]),.v 11],(.tup [(.agg [.q 3 1,.o 0,.o 1,.o 2]),.v 12])),(25,[.v 1,(.agg [.q 3 1,.o 0,.o 1,.o 2]),.v 11],(.tup [(.agg [.q 3 1,.o 0,.o 1,.o 2]),.v 12])),(21,[(.agg [.q 3 1,.o 0,.o 1,.o 2]),(.agg [.q 3 1,.o 0,.o 1,.o 2])],(.c (.bool true))),(18,[.v 1,(.agg [.q 3 1,.o 0,.o 1,.o 2])],(.c (.bool true))),(26,[(.agg [.q 3 1,.o 0,.o 1,.o 2])],(.agg [.o 4,.v 13,.o 5]))] } c (ppF (.q 1 0) (.v 1) (.v 2) (.v 3) (.v 4) (.v 5)) [(.cells 26 4 [[.q 3 1,.o 0,.o 1,.o 2]]),(.cells 26 4 [[.q 3 1,.o 0,.o 1,.o 2]])] 0 [some 0,some 1] (ppF (.q 1 0) (.v 1) (.v 2) (.v 3) (.v 4) (.e [([],1),([5],1)])) [(.cells 26 4 [[.q 3 1,.o 0,.o 1,.o 2]]),(.cells 26 4 [[.q 3 1,.o 0,.o 1,.o 2]])]
theorem t_PPRe:p_PPRe (oCode s_PPA):=⟨_,rfl,by decide +kernel,by decide +kernel⟩
abbrev p_PPRk (c:Code):Prop:=SegD { vars:=[(0,9223372036854775807),(1,4),(0,59),(0,100000),(-576460752303423488,576460752303423488),(0,79),(0,1073741823),(7,7),(0,1073741824),(0,19),(0,1073741824),(0,299),(0,288230376151711744)],facts:=[([([0],1),([5],-1)],1,9223372036854775807),([([3],1),([4],-1),([11],1),([12],-1)],0,0)],defs:=[(1,[([6],1)],[([],8)],[([7],1)]),(0,[([6],1)],[([],8)],[([8],1)]),(1,[([8],1)],[([],20)],[([9],1)]),(0,[([6],1)],[([],160)],[([10],1)]),(1,[([10],1)],[([],300)],[([11],1)])],lens:=[(0,[([0],1)])],ats:=[(0,[([5],1)],[.o 3])],extV:=[(7,[.o 3,.i 1073741824],(.v 6)),(24,[.v 1,(.agg [.q 3 1,.o 0,.o 1,.o 2]),.v 11],(.tup [(.agg [.q 3 2,.o 0,.o 1,.o 2]),.i 0])),(25,[.v 1,(.agg [.q 3 1,.o 0,.o 1,.o 2]),.v 11],(.tup [(.agg [.q 3 2,.o 0,.o 1,.o 2]),.i 0])),(21,[(.agg [.q 3 2,.o 0,.o 1,.o 2]),(.agg [.q 3 2,.o 0,.o 1,.o 2])],(.c (.bool true))),(18,[.v 1,(.agg [.q 3 2,.o 0,.o 1,.o 2])],(.c (.bool true))),(26,[(.agg [.q 3 2,.o 0,.o 1,.o 2])],(.agg [.o 4,.v 12,.o 5]))] } c (ppF (.q 1 0) (.v 1) (.v 2) (.v 3) (.v 4) (.v 5)) [(.cells 26 4 [[.q 3 1,.o 0,.o 1,.o 2]]),(.cells 26 4 [[.q 3 1,.o 0,.o 1,.o 2]])] 0 [some 0,some 1] (ppF (.q 1 0) (.v 1) (.v 2) (.e [([3],1),([11],1)]) (.v 4) (.e [([],1),([5],1)])) [(.cells 26 4 [[.q 3 2,.o 0,.o 1,.o 2]]),(.cells 26 4 [[.q 3 2,.o 0,.o 1,.o 2]])]
theorem t_PPRk:p_PPRk (oCode s_PPA):=⟨_,rfl,by decide +kernel,by decide +kernel⟩
abbrev p_PPX (c:Code):Prop:=SegD { vars:=[(0,9223372036854775807),(1,4),(0,59)],lens:=[(0,[([0],1)])] } c (ppF (.q 1 0) (.v 1) (.v 2) (.o 3) (.o 4) (.v 0)) [(.cells 26 4 [[.q 3 1,.o 0,.o 1,.o 2]]),(.cells 26 4 [[.q 3 1,.o 0,.o 1,.o 2]])] 2 [some 0,some 1] (ppF (.q 1 0) (.v 1) (.v 2) (.o 3) (.o 4) (.v 0)) [(.cells 26 4 [[.q 3 1,.o 0,.o 1,.o 2]]),(.cells 26 4 [[.q 3 1,.o 0,.o 1,.o 2]])]
theorem t_PPX:p_PPX (oCode s_PPA):=⟨_,rfl,by decide +kernel,by decide +kernel⟩
abbrev p_PPXr (o:Option (RT Out)):Prop:=SegRR { vars:=[(0,9223372036854775807),(1,4),(0,59)],lens:=[(0,[([0],1)])] } Try.f6 o 0 (ppF (.q 1 0) (.v 1) (.v 2) (.o 3) (.o 4) (.v 0)) [(.cells 26 4 [[.q 3 1,.o 0,.o 1,.o 2]]),(.cells 26 4 [[.q 3 1,.o 0,.o 1,.o 2]])] ((.c (.bool true)))
theorem t_PPXr:p_PPXr s_PPA:=⟨_,rfl,by decide +kernel,by decide +kernel,by kernel_rfl⟩
abbrev p_PPY (c:Code):Prop:=SegD { vars:=[(0,9223372036854775807),(1,4),(0,59)],facts:=[([([0],1)],81,9223372036854775807)],lens:=[(0,[([0],1)])] } c (ppF (.q 1 0) (.v 1) (.v 2) (.o 3) (.o 4) (.i 80)) [(.cells 26 4 [[.q 3 1,.o 0,.o 1,.o 2]]),(.cells 26 4 [[.q 3 1,.o 0,.o 1,.o 2]])] 2 [some 0,some 1] (ppF (.q 1 0) (.v 1) (.v 2) (.o 3) (.o 4) (.i 80)) [(.cells 26 4 [[.q 3 1,.o 0,.o 1,.o 2]]),(.cells 26 4 [[.q 3 1,.o 0,.o 1,.o 2]])]
theorem t_PPY:p_PPY (oCode s_PPA):=⟨_,rfl,by decide +kernel,by decide +kernel⟩
abbrev p_PPYr (o:Option (RT Out)):Prop:=SegRR { vars:=[(0,9223372036854775807),(1,4),(0,59)],facts:=[([([0],1)],81,9223372036854775807)],lens:=[(0,[([0],1)])] } Try.f6 o 0 (ppF (.q 1 0) (.v 1) (.v 2) (.o 3) (.o 4) (.i 80)) [(.cells 26 4 [[.q 3 1,.o 0,.o 1,.o 2]]),(.cells 26 4 [[.q 3 1,.o 0,.o 1,.o 2]])] ((.c (.bool true)))
theorem t_PPYr:p_PPYr s_PPA:=⟨_,rfl,by decide +kernel,by decide +kernel,by kernel_rfl⟩
theorem in_small {m c:Int} {L l':List Lay} {q v p up:Int} (hc:0≤c∧c≤59) (hq:1≤q∧q≤20) (hv:0≤v∧v≤499) (hI:poolInS m c L ⟨q,v,p⟩=(l',up,0)):0≤v-up∧v-up≤1200:=by
 have hb:=poolInS_bd hI
 refine⟨hb.2.2.2.2.1,?_⟩
 unfold poolInS at hI
 split at hI
 ·simp only[Prod.mk.injEq]at hI;omega
 ·split at hI
  ·simp only[Prod.mk.injEq]at hI;omega
  ·split at hI
   ·simp only[Prod.mk.injEq]at hI;omega
   ·split at hI
    ·unfold inC at hI
     have h1:q*c≤20*c:=Int.mul_le_mul_of_nonneg_right hq.2 hc.1
     obtain⟨e1,e2⟩:=of_ok (r:=c) (q:=q) (fitsR_iff.2 ⟨hc.1,by omega⟩) (by omega) (by omega)
     simp only[e1,e2]at hI
     split at hI
     ·simp at hI
     ·split at hI
      ·simp at hI
      ·split at hI
       ·simp only[Prod.mk.injEq]at hI;omega
       ·rename_i h0
        simp only[Prod.mk.injEq]at hI
        exact absurd hI.2.2 h0
    ·simp at hI
theorem out_v0 {m c:Int} {l:List Lay} {d:Pnd} {kind q:Int} (hl:LR l):0≤(poolOutS m c l d kind q).2.2.1.v:=by
 have k:=(outS_val hl (q:=q)).1
 unfold poolOutS
 split
 ·simp[Lay.zero]
 ·split
  ·simp[Lay.zero]
  ·split
   ·simp[Lay.zero]
   ·simp only[methOut]
    split
    ·unfold outP
     split
     ·simp[Lay.zero]
     ·split
      ·simp[Lay.zero]
      ·exact k
    ·split
     ·unfold outC
      split
      ·simp[Lay.zero]
      ·split
       ·rename_i y0 e0 hS
        rw[hS]at k;exact k
       ·rename_i z t y0 e0 hS
        have hz:0≤z.v:=by
         have h1:=outS_LR hl (q:=q)
         rw[hS]at h1
         exact(layOk_iff.1 (h1.ok z (by simp))).2.2.1
        rw[hS]at k
        split
        ·exact k
        ·simp only
         simp only at k
         split
         ·omega
         ·unfold ofV mdQ
          split
          ·omega
          ·split
           ·omega
           ·have:0≤max q 0*c:=Int.mul_nonneg (by omega) (by omega)
            omega
     ·exact k
structure Kept (j:Nat) (m:Int) (L:List Lay) (d:Pnd) (x y:Int):Prop where
 ok:PoolOk m L d
 v:vs L=x-y
 x0:0≤x
 x1:x≤1200*j
 y0:0≤y
set_option maxHeartbeats 4000000 in
theorem walk (oA:Option (RT Out)) (rA:p_PPA body oA) (rIe:p_PPIe (oCode oA)) (rIk:p_PPIk (oCode oA)) (rOt:p_PPOt (oCode oA)) (rOf:p_PPOf (oCode oA)) (rRe:p_PPRe (oCode oA)) (rRk:p_PPRk (oCode oA)) (rX:p_PPX (oCode oA)) (rXr:p_PPXr oA) (rY:p_PPY (oCode oA)) (rYr:p_PPYr oA)
  {me co:Int} {z:List Int} (hme:I64 me) (hco:I64 co) (hz:z.length≤9223372036854775807) (hI:AllI z) :
  Ck 6 [.i me,.i co,.lit 1 (intsR z)] (.c (.bool true)):=by
 have hm:=ck_Place me 4
 have hc:=ck_Place co 60
 have m0b:=Int.emod_nonneg me (show(4:Int)≠0 by decide)
 have m0c:=Int.emod_lt_of_pos me (show(0:Int)<4 by decide)
 have cb:=Int.emod_nonneg co (show(60:Int)≠0 by decide)
 have cc:=Int.emod_lt_of_pos co (show(0:Int)<60 by decide)
 generalize me%4=m0 at *
 generalize co%60=c at *
 have:=hme.lo;have:=hme.hi;have:=hco.lo;have:=hco.hi
 refine CK.of_body Try.func6 (c:=body) (by kernel_rfl) (ClL.out) (ClA.out) fun A w0 a0=>?_
 intro mm w a pr
 rw[Try.ntmps6]at pr
 refine rA.go (evS _ [(z.length:Int),m0,c] [.int .i64 me,.int .i64 co] [intsR z] BndL.nil.c.c.c FctL.nil LenL.nil.c .nil) (xK (kc hm (kc hc kn))) pr (fd:=ppF (.lit 1 (intsR z)) (.i (1+m0)) (.i c) (.i 0) (.i 0) (.i 0)) (bd:=ppB [] ⟨0,0,0⟩) ?_
 intro mm w a pr
 obtain⟨m,hme'⟩:∃m,m=1+m0:=⟨_,rfl⟩
 rw[←hme']at pr
 have hm4:1≤m∧m≤4:=by omega
 clear hm hc hme'
 refine loop_rule (fun n a w=>∃(i:Nat) (L:List Lay) (d:Pnd) (x y:Int),n=80-i∧i≤80∧i≤z.length∧Kept i m L d x y∧∃mm,@Pre bk0 ev0 A w0 a0 mm w a (ppF (.lit 1 (intsR z)) (.i m) (.i c) (.i x) (.i y) (.i (i:Int))) (hOf (ppB L d))) ?_ (n:=80) ⟨0,[],⟨0,0,0⟩,0,0,rfl,by omega,by omega,⟨⟨⟨by simp,fun x h=>absurd h List.not_mem_nil,by simp[qs],by simp[vs],by simp[aps,absum]⟩,.inr (by simp),by simp,by simp,by simp,by simp[qs],.inr ⟨rfl,rfl,rfl⟩⟩,by simp[vs],by omega,by omega,by omega⟩,_,pr⟩
 rintro n a w ⟨i,L,⟨p0,p1,p2⟩,x,y,rfl,hi,hil,K,mm,pr⟩
 have ok:=K.ok
 have lr:=ok.lr
 have kv:=K.v
 have kx:=K.x0
 have ky:=K.x1
 have ky0:=K.y0
 have hvp:=vs_pos' lr.ok
 have hvq:=lr.v
 have pb:=ok.pnd
 obtain⟨b1,b2,b3,b4,b5,b6⟩:=pb
 simp only at b1 b2 b3 b4 b5 b6
 rcases(by omega:i=z.length∨(i=80∧i<z.length)∨(i<80∧i<z.length))with h|⟨h,hlt⟩|⟨h,hlt⟩
 ·subst h
  refine rX.go (evS _ [(z.length:Int),m,c] [.int .i64 p0,.int .i64 p1,.int .i64 p2,.int .i64 x,.int .i64 y] [intsR z,laysR L] BndL.nil.c.c.c FctL.nil LenL.nil.c .nil) (xK kn) pr ?_
  intro mm w a pr
  exact rXr.go (evS _ [(z.length:Int),m,c] [.int .i64 p0,.int .i64 p1,.int .i64 p2,.int .i64 x,.int .i64 y] [intsR z,laysR L] BndL.nil.c.c.c FctL.nil LenL.nil.c .nil) (xK kn) pr
 ·subst h
  refine rY.go (evS _ [(z.length:Int),m,c] [.int .i64 p0,.int .i64 p1,.int .i64 p2,.int .i64 x,.int .i64 y] [intsR z,laysR L] BndL.nil.c.c.c FctL.nil.d LenL.nil.c .nil) (xK kn) pr ?_
  intro mm w a pr
  exact rYr.go (evS _ [(z.length:Int),m,c] [.int .i64 p0,.int .i64 p1,.int .i64 p2,.int .i64 x,.int .i64 y] [intsR z,laysR L] BndL.nil.c.c.c FctL.nil.d LenL.nil.c .nil) (xK kn) pr
 obtain⟨v,hv0⟩:∃v,z[i]?=some v:=⟨_,List.getElem?_eq_getElem hlt⟩
 have hv:z[(i:Int).toNat]?=some v:=by simpa using hv0
 have hP:=ck_Place v 1073741824
 have k0:=Int.emod_nonneg v (show(1073741824:Int)≠0 by decide)
 have k1:=Int.emod_lt_of_pos v (show(0:Int)<1073741824 by decide)
 generalize v%1073741824=k at *
 obtain⟨t,ht⟩:∃t,t=k%8:=⟨_,rfl⟩
 obtain⟨k8,hk8⟩:∃k8,k8=k/8:=⟨_,rfl⟩
 obtain⟨q,hq⟩:∃q,q=k8%20:=⟨_,rfl⟩
 obtain⟨k160,hk160⟩:∃k160,k160=k/160:=⟨_,rfl⟩
 have t0:0≤t∧t≤7:=by omega
 have q0:0≤q∧q≤19:=by omega
 have k8b:0≤k8∧k8≤1073741824:=by omega
 have k160b:0≤k160∧k160≤1073741824:=by omega
 have tail:∀{L2:List Lay} {d2:Pnd},PoolOk m L2 d2→Ck 18 [.i m,PoolD.av ⟨L2,d2.a,d2.b,d2.c⟩] (.c (.bool true))∧Ck 26 [PoolD.av ⟨L2,d2.a,d2.b,d2.c⟩] (Lay.av ⟨qs L2,vs L2,ps L2⟩)∧Ck 21 [PoolD.av ⟨L2,d2.a,d2.b,d2.c⟩,PoolD.av ⟨L2,d2.a,d2.b,d2.c⟩] (.c (.bool true))∧(0≤vs L2∧vs L2≤288230376151711744):=fun{L2 d2} h=>by
  obtain⟨c1,c2,c3,c4,c5,c6⟩:=h.pnd
  exact⟨ck_poolRight hm4 h,ck_ptot h.lr,ck_d11Same h.lr ⟨by omega,by omega⟩ ⟨by omega,by omega⟩ ⟨by omega,by omega⟩,vs_pos' h.lr.ok,h.lr.v⟩
 have next:∀{L2:List Lay} {d2:Pnd} {x2 y2:Int} {mm w a},Kept (i+1) m L2 d2 x2 y2→@Pre bk0 ev0 A w0 a0 mm w a (ppF (.lit 1 (intsR z)) (.i m) (.i c) (.i x2) (.i y2) (.i (1+(i:Int)))) (hOf (ppB L2 d2)) →
   ∃n,n<80-i∧∃(i:Nat) (L:List Lay) (d:Pnd) (x y:Int),n=80-i∧i≤80∧i≤z.length∧Kept i m L d x y∧∃mm,@Pre bk0 ev0 A w0 a0 mm w a (ppF (.lit 1 (intsR z)) (.i m) (.i c) (.i x) (.i y) (.i (i:Int))) (hOf (ppB L d)):=by
  intro L2 d2 x2 y2 mm w a K2 pr
  rw[show(1+(i:Int))=((i+1:Nat):Int)by omega]at pr
  exact⟨_,by omega,i+1,L2,d2,x2,y2,rfl,by omega,by omega,K2,mm,pr⟩
 have k1i:((i+1:Nat):Int)=(i:Int)+1:=by omega
 rcases(by omega:t≤3∨(4≤t∧t≤6)∨t=7)with ht0|ht0|ht0
 ·obtain⟨xv,hxv⟩:∃xv,xv=k160%500:=⟨_,rfl⟩
  obtain⟨k80000,hk80000⟩:∃k80000,k80000=k/80000:=⟨_,rfl⟩
  obtain⟨pf,hpf⟩:∃pf,pf=k80000%100:=⟨_,rfl⟩
  have xvb:0≤xv∧xv≤499:=by omega
  have kb:0≤k80000∧k80000≤1073741824:=by omega
  have pfb:0≤pf∧pf≤99:=by omega
  have hx:AllI [1+q,xv,-50+pf]:=by
   intro u hu
   simp only[List.mem_cons,List.not_mem_nil,or_false]at hu
   rcases hu with rfl|rfl|rfl<;>exact⟨by omega,by omega⟩
  obtain⟨L2,up,e,hR⟩:∃L2 up e,poolInS m c L ⟨1+q,xv,-50+pf⟩=(L2,up,e):=⟨_,_,_,rfl⟩
  have cI:=ck_poolIn (c:=c) (p:=⟨L,p0,p1,p2⟩) hm4 lr hx (by omega) hR
  have cD:=ck_d13In (c:=c) (p0:=p0) (p1:=p1) (p2:=p2) hm4 lr ok.one hx (by omega)
  rw[hR]at cD
  simp only at cI cD
  have eb:=@poolInS_err m c L ⟨1+q,xv,-50+pf⟩
  have eno:=@poolInS_no m c L ⟨1+q,xv,-50+pf⟩
  rw[hR]at eb eno
  simp only at eb eno
  obtain⟨o2,o3,-⟩:=ok.in_ hm4 hR
  by_cases he:e=0
  ·subst he
   have sm:=in_small (by omega) (by omega) xvb hR
   have hbd:=poolInS_bd hR
   have hvl:=o3 rfl
   simp only at hvl hbd
   obtain⟨cR,cT,cS,tvb⟩:=tail o2
   obtain⟨tv,htv⟩:∃tv,tv=vs L2:=⟨_,rfl⟩
   obtain⟨tq,htq⟩:∃tq,tq=qs L2:=⟨_,rfl⟩
   obtain⟨tp,htp⟩:∃tp,tp=ps L2:=⟨_,rfl⟩
   rw[←htv,←htq,←htp]at cT
   rw[←htv]at tvb hvl
   refine rIk.go (evS _ [(z.length:Int),m,c,x,y,(i:Int),k,t,k8,q,k160,xv,k80000,pf,up,tv] [.int .i64 p0,.int .i64 p1,.int .i64 p2,.int .i64 v,.int .i64 tq,.int .i64 tp] [intsR z,laysR L,laysR L2] BndL.nil.c.c.c.c.c.c.c.c.c.c.c.c.c.c.c.c FctL.nil.d.d LenL.nil.c (.d (aI hv) .nil) (.rem (rem_def (y:=k) (pv_get _ _) (pv_get _ _) (pv_lit _ _) (by omega) ht) (.quo (quo_def (y:=k) (pv_get _ _) (pv_get _ _) (pv_lit _ _) (by omega) hk8) (.rem (rem_def (y:=k8) (pv_get _ _) (pv_get _ _) (pv_lit _ _) (by omega) hq) (.quo (quo_def (y:=k) (pv_get _ _) (pv_get _ _) (pv_lit _ _) (by omega) hk160) (.rem (rem_def (y:=k160) (pv_get _ _) (pv_get _ _) (pv_lit _ _) (by omega) hxv) (.quo (quo_def (y:=k) (pv_get _ _) (pv_get _ _) (pv_lit _ _) (by omega) hk80000) (.rem (rem_def (y:=k80000) (pv_get _ _) (pv_get _ _) (pv_lit _ _) (by omega) hpf) (.nil))))))))) (xK (kc hP (kc cI (kc cD (kc cS (kc cR (kc cT kn))))))) pr (fd:=ppF (.lit 1 (intsR z)) (.i m) (.i c) (.i (x+xv-up)) (.i y) (.i (1+(i:Int)))) (bd:=ppB L2 ⟨p0,p1,p2⟩) ?_
   intro mm w a pr
   exact next ⟨o2,by omega,by omega,by omega,by omega⟩ pr
  ·obtain⟨e1,e2⟩:=eno he
   rw[e1]at cI cD
   obtain⟨cR,cT,cS,tvb⟩:=tail ok
   obtain⟨tv,htv⟩:∃tv,tv=vs L:=⟨_,rfl⟩
   obtain⟨tq,htq⟩:∃tq,tq=qs L:=⟨_,rfl⟩
   obtain⟨tp,htp⟩:∃tp,tp=ps L:=⟨_,rfl⟩
   rw[←htv,←htq,←htp]at cT
   refine rIe.go (evS _ [(z.length:Int),m,c,x,y,(i:Int),k,t,k8,q,k160,xv,k80000,pf,up,e,tv] [.int .i64 p0,.int .i64 p1,.int .i64 p2,.int .i64 v,.int .i64 tq,.int .i64 tp] [intsR z,laysR L] BndL.nil.c.c.c.c.c.c.c.c.c.c.c.c.c.c.c.c.c FctL.nil.d.d LenL.nil.c (.d (aI hv) .nil) (.rem (rem_def (y:=k) (pv_get _ _) (pv_get _ _) (pv_lit _ _) (by omega) ht) (.quo (quo_def (y:=k) (pv_get _ _) (pv_get _ _) (pv_lit _ _) (by omega) hk8) (.rem (rem_def (y:=k8) (pv_get _ _) (pv_get _ _) (pv_lit _ _) (by omega) hq) (.quo (quo_def (y:=k) (pv_get _ _) (pv_get _ _) (pv_lit _ _) (by omega) hk160) (.rem (rem_def (y:=k160) (pv_get _ _) (pv_get _ _) (pv_lit _ _) (by omega) hxv) (.quo (quo_def (y:=k) (pv_get _ _) (pv_get _ _) (pv_lit _ _) (by omega) hk80000) (.rem (rem_def (y:=k80000) (pv_get _ _) (pv_get _ _) (pv_lit _ _) (by omega) hpf) (.nil))))))))) (xK (kc hP (kc cI (kc cD (kc cS (kc cR (kc cT kn))))))) pr (fd:=ppF (.lit 1 (intsR z)) (.i m) (.i c) (.i x) (.i y) (.i (1+(i:Int)))) (bd:=ppB L ⟨p0,p1,p2⟩) ?_
   intro mm w a pr
   exact next ⟨ok,by omega,by omega,by omega,by omega⟩ pr
 ·obtain⟨kd,hkd⟩:∃kd,kd=k160%4:=⟨_,rfl⟩
  have kdb:0≤kd∧kd≤3:=by omega
  obtain⟨L2,⟨d0,d1,d2⟩,⟨yq,yv,yp⟩,wt,e,hR⟩:∃L2 d' y wt e,poolOutS m c L ⟨p0,p1,p2⟩ kd (1+q)=(L2,d',y,wt,e):=⟨_,_,_,_,_,rfl⟩
  have cI:=ck_poolOut (c:=c) (p:=⟨L,p0,p1,p2⟩) (kind:=kd) (q:=1+q) hm4 lr (fun h4=>by have:=ok.one;simp only;omega) ok.pnd kdb ⟨by omega,by omega⟩ (by omega) hR
  have cD:=ck_d13Out (c:=c) (p0:=p0) (p1:=p1) (p2:=p2) (kind:=kd) (q:=1+q) hm4 lr ok.one ok.pnd ⟨by omega,by omega⟩ kdb (by omega)
  rw[hR]at cD
  simp only at cI cD
  have eb:=@poolOutS_err m c L ⟨p0,p1,p2⟩ kd (1+q)
  have yvb:=poolOutS_val (c:=c) (kind:=kd) (q:=1+q) ok hm4 kdb
  have yib:=poolOutS_I (m:=m) (c:=c) (d:=⟨p0,p1,p2⟩) (kind:=kd) (q:=1+q) lr
  have yv0:=out_v0 (m:=m) (c:=c) (d:=⟨p0,p1,p2⟩) (kind:=kd) (q:=1+q) lr
  rw[hR]at eb yvb yib yv0
  simp only at eb yvb yib yv0
  obtain⟨o2,o3⟩:=ok.out_ hm4 kdb hR
  simp only at o3
  obtain⟨cR,cT,cS,tvb⟩:=tail o2
  obtain⟨tv,htv⟩:∃tv,tv=vs L2:=⟨_,rfl⟩
  obtain⟨tq,htq⟩:∃tq,tq=qs L2:=⟨_,rfl⟩
  obtain⟨tp,htp⟩:∃tp,tp=ps L2:=⟨_,rfl⟩
  rw[←htv,←htq,←htp]at cT
  rw[←htv]at tvb o3
  cases wt with
  |true =>
   refine rOt.go (evS _ [(z.length:Int),m,c,x,y,(i:Int),k,t,k8,q,k160,kd,yq,yv,yp,e,tv] [.int .i64 p0,.int .i64 p1,.int .i64 p2,.int .i64 v,.int .i64 d0,.int .i64 d1,.int .i64 d2,.int .i64 tq,.int .i64 tp] [intsR z,laysR L,laysR L2] BndL.nil.c.c.c.c.c.c.c.c.c.c.c.c.c.c.c.c.c FctL.nil.d.d LenL.nil.c (.d (aI hv) .nil) (.rem (rem_def (y:=k) (pv_get _ _) (pv_get _ _) (pv_lit _ _) (by omega) ht) (.quo (quo_def (y:=k) (pv_get _ _) (pv_get _ _) (pv_lit _ _) (by omega) hk8) (.rem (rem_def (y:=k8) (pv_get _ _) (pv_get _ _) (pv_lit _ _) (by omega) hq) (.quo (quo_def (y:=k) (pv_get _ _) (pv_get _ _) (pv_lit _ _) (by omega) hk160) (.rem (rem_def (y:=k160) (pv_get _ _) (pv_get _ _) (pv_lit _ _) (by omega) hkd) (.nil))))))) (xK (kc hP (kc cI (kc cD (kc cS (kc cR (kc cT kn))))))) pr (fd:=ppF (.lit 1 (intsR z)) (.i m) (.i c) (.i x) (.i (y+yv)) (.i (1+(i:Int)))) (bd:=ppB L2 ⟨d0,d1,d2⟩) ?_
   intro mm w a pr
   exact next ⟨o2,by omega,by omega,by omega,by omega⟩ pr
  |false =>
   refine rOf.go (evS _ [(z.length:Int),m,c,x,y,(i:Int),k,t,k8,q,k160,kd,yq,yv,yp,e,tv] [.int .i64 p0,.int .i64 p1,.int .i64 p2,.int .i64 v,.int .i64 d0,.int .i64 d1,.int .i64 d2,.int .i64 tq,.int .i64 tp] [intsR z,laysR L,laysR L2] BndL.nil.c.c.c.c.c.c.c.c.c.c.c.c.c.c.c.c.c FctL.nil.d.d LenL.nil.c (.d (aI hv) .nil) (.rem (rem_def (y:=k) (pv_get _ _) (pv_get _ _) (pv_lit _ _) (by omega) ht) (.quo (quo_def (y:=k) (pv_get _ _) (pv_get _ _) (pv_lit _ _) (by omega) hk8) (.rem (rem_def (y:=k8) (pv_get _ _) (pv_get _ _) (pv_lit _ _) (by omega) hq) (.quo (quo_def (y:=k) (pv_get _ _) (pv_get _ _) (pv_lit _ _) (by omega) hk160) (.rem (rem_def (y:=k160) (pv_get _ _) (pv_get _ _) (pv_lit _ _) (by omega) hkd) (.nil))))))) (xK (kc hP (kc cI (kc cD (kc cS (kc cR (kc cT kn))))))) pr (fd:=ppF (.lit 1 (intsR z)) (.i m) (.i c) (.i x) (.i (y+yv)) (.i (1+(i:Int)))) (bd:=ppB L2 ⟨d0,d1,d2⟩) ?_
   intro mm w a pr
   exact next ⟨o2,by omega,by omega,by omega,by omega⟩ pr
 ·obtain⟨rv,hrv⟩:∃rv,rv=k160%300:=⟨_,rfl⟩
  have rvb:0≤rv∧rv≤299:=by omega
  have hV:0≤rv∧vs L+rv≤288230376151711744:=by omega
  have cI:=ck_poolRaise ok hm4 hV
  have cD:=ck_d13Raise' ok hm4 hV
  have way:(∃e:Int,(1≤e∧e≤20)∧Ck 24 [.i m,PoolD.av ⟨L,p0,p1,p2⟩,.i rv] (.tup [PoolD.av ⟨L,p0,p1,p2⟩,.i e])∧Ck 25 [.i m,PoolD.av ⟨L,p0,p1,p2⟩,.i rv] (.tup [PoolD.av ⟨L,p0,p1,p2⟩,.i e]))∨(m≠4∧L.length≠0):=by
   by_cases h4:m=4
   ·rw[if_pos h4,if_pos h4]at cI cD
    exact .inl ⟨1,by omega,cI,cD⟩
   rw[if_neg h4,if_neg h4]at cI cD
   by_cases h0:L.length=0
   ·obtain rfl:=List.length_eq_zero_iff.1 h0
    exact .inl ⟨5,by omega,cI,cD⟩
   exact .inr ⟨h4,h0⟩
  rcases way with⟨e,eb,cI,cD⟩|⟨h4,h0⟩
  ·obtain⟨cR,cT,cS,tvb⟩:=tail ok
   obtain⟨tv,htv⟩:∃tv,tv=vs L:=⟨_,rfl⟩
   obtain⟨tq,htq⟩:∃tq,tq=qs L:=⟨_,rfl⟩
   obtain⟨tp,htp⟩:∃tp,tp=ps L:=⟨_,rfl⟩
   rw[←htv,←htq,←htp]at cT
   refine rRe.go (evS _ [(z.length:Int),m,c,x,y,(i:Int),k,t,k8,q,k160,rv,e,tv] [.int .i64 p0,.int .i64 p1,.int .i64 p2,.int .i64 v,.int .i64 tq,.int .i64 tp] [intsR z,laysR L] BndL.nil.c.c.c.c.c.c.c.c.c.c.c.c.c.c FctL.nil.d.d LenL.nil.c (.d (aI hv) .nil) (.rem (rem_def (y:=k) (pv_get _ _) (pv_get _ _) (pv_lit _ _) (by omega) ht) (.quo (quo_def (y:=k) (pv_get _ _) (pv_get _ _) (pv_lit _ _) (by omega) hk8) (.rem (rem_def (y:=k8) (pv_get _ _) (pv_get _ _) (pv_lit _ _) (by omega) hq) (.quo (quo_def (y:=k) (pv_get _ _) (pv_get _ _) (pv_lit _ _) (by omega) hk160) (.rem (rem_def (y:=k160) (pv_get _ _) (pv_get _ _) (pv_lit _ _) (by omega) hrv) (.nil))))))) (xK (kc hP (kc cI (kc cD (kc cS (kc cR (kc cT kn))))))) pr (fd:=ppF (.lit 1 (intsR z)) (.i m) (.i c) (.i x) (.i y) (.i (1+(i:Int)))) (bd:=ppB L ⟨p0,p1,p2⟩) ?_
   intro mm w a pr
   exact next ⟨ok,by omega,by omega,by omega,by omega⟩ pr
  rw[if_neg h4,if_neg h4]at cI cD
  rw[if_neg h0]at cI cD
  obtain⟨o2,o3⟩:=ok.raise_ (v:=rv) (fun e=>by subst e;simp at h0) rvb.1 hV.2
  generalize raiseGo rv (qs L) rv L=L2 at *
  obtain⟨cR,cT,cS,tvb⟩:=tail o2
  obtain⟨tv,htv⟩:∃tv,tv=vs L2:=⟨_,rfl⟩
  obtain⟨tq,htq⟩:∃tq,tq=qs L2:=⟨_,rfl⟩
  obtain⟨tp,htp⟩:∃tp,tp=ps L2:=⟨_,rfl⟩
  rw[←htv,←htq,←htp]at cT
  rw[←htv]at tvb o3
  refine rRk.go (evS _ [(z.length:Int),m,c,x,y,(i:Int),k,t,k8,q,k160,rv,tv] [.int .i64 p0,.int .i64 p1,.int .i64 p2,.int .i64 v,.int .i64 tq,.int .i64 tp] [intsR z,laysR L,laysR L2] BndL.nil.c.c.c.c.c.c.c.c.c.c.c.c.c FctL.nil.d.d LenL.nil.c (.d (aI hv) .nil) (.rem (rem_def (y:=k) (pv_get _ _) (pv_get _ _) (pv_lit _ _) (by omega) ht) (.quo (quo_def (y:=k) (pv_get _ _) (pv_get _ _) (pv_lit _ _) (by omega) hk8) (.rem (rem_def (y:=k8) (pv_get _ _) (pv_get _ _) (pv_lit _ _) (by omega) hq) (.quo (quo_def (y:=k) (pv_get _ _) (pv_get _ _) (pv_lit _ _) (by omega) hk160) (.rem (rem_def (y:=k160) (pv_get _ _) (pv_get _ _) (pv_lit _ _) (by omega) hrv) (.nil))))))) (xK (kc hP (kc cI (kc cD (kc cS (kc cR (kc cT kn))))))) pr (fd:=ppF (.lit 1 (intsR z)) (.i m) (.i c) (.i (x+rv)) (.i y) (.i (1+(i:Int)))) (bd:=ppB L2 ⟨p0,p1,p2⟩) ?_
  intro mm w a pr
  exact next ⟨o2,by omega,by omega,by omega,by omega⟩ pr
end PP
theorem PoolPlays_walk (method cost:Int) (a1:Option Addr) (len1 cap1:Nat) (z1:List Int) (w:World) (w0:I64 method) (w1:I64 cost) (w2:Row w 1 a1 len1 cap1 z1) :
  Calls Try.prog 6 #[.int .i64 method,.int .i64 cost,.slice a1 len1 cap1] w fun e w'=>e=.returned (.bool true)∧Below w.heap.size w w':=by
 have e1:=w2.len;have e2:=w2.le;have e3:=w2.max
 simp only[maxLen]at e3
 refine calls_of_ck (PP.walk PP.s_PPA PP.t_PPA PP.t_PPIe PP.t_PPIk PP.t_PPOt PP.t_PPOf PP.t_PPRe PP.t_PPRk PP.t_PPX PP.t_PPXr PP.t_PPY PP.t_PPYr w0 w1 (z:=z1) (by omega) w2.all) w _ rfl ?_
 intro i x hx
 rcases(by omega:i=0∨i=1∨i=2∨3≤i)with rfl|rfl|rfl|hi
 ·cases hx;exact @RdL.c bk0 ev0 _ _ _
 ·cases hx;exact @RdL.c bk0 ev0 _ _ _
 ·cases hx;exact rdl_ints w2
 ·rw[List.getElem?_eq_none hi]at hx;cases hx
end Go.Proofs.Ytjccjmmbebiegaa
