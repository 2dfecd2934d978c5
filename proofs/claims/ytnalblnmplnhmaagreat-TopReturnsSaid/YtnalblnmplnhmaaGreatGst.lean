/-
 stock.Ready, At, worth, Worth, Bring, Fetch, Turn on any state: their ways. (Printed by wip/mkpath.py out of wip/paths/gst.py.)
-/
import Derived.Test.YtnalblnmplnhmaaGreatZ
set_option linter.unusedVariables false
set_option linter.unusedSimpArgs false
namespace Go.Proofs.YtnalblnmplnhmaaGreat
open Go.RowKit Mc
set_option maxRecDepth 1000000
abbrev b_Ready_false:Bk:={ vars:=gV,facts:=gF,lens:=gL,ats:=gAc false }
theorem Ready_false {S:StD} {e item now m c:Int} {pools:List PoolD} {bal:List Int} {rolls:List (List Int)} {prices down:List Int} {ahead:List EntC} {ms cs:List Int} (H:Wx S e item now false pools bal rolls prices down ahead ms cs m c)  :
 Ck 113 [S.av,.i e,.i item] (.i 0):=by
 have:=H.bd
 let ev:=evS b_Ready_false [e,(S.ents.length:Int),item,(S.weights.length:Int),m,c] [.int .i64 S.entities,.int .i64 S.periods,.int .i64 S.done,.int .i64 now] (gS S pools bal rolls prices down ahead ms cs []) BndL.nil.c.c.c.c.c.c FctL.nil.c.c LenL.nil.c.c.c.c.c.c.c.c (.d (aE H.hx) (.d (aS H.hms) (.d (aS H.hcs) (.d (aI H.hm) (.d (aI H.hc) .nil)))))
 exact CK.way _ ev [(sN (.q 8 0) (.o 2)),.v 0,.v 2] (.i 0) (by decide +kernel) kn
abbrev b_Ready_true:Bk:={ vars:=gV,facts:=gF,lens:=gL,ats:=gAc true }
theorem Ready_true {S:StD} {e item now m c:Int} {pools:List PoolD} {bal:List Int} {rolls:List (List Int)} {prices down:List Int} {ahead:List EntC} {ms cs:List Int} (H:Wx S e item now true pools bal rolls prices down ahead ms cs m c)  :
 Ck 113 [S.av,.i e,.i item] (.i 7):=by
 have:=H.bd
 let ev:=evS b_Ready_true [e,(S.ents.length:Int),item,(S.weights.length:Int),m,c] [.int .i64 S.entities,.int .i64 S.periods,.int .i64 S.done,.int .i64 now] (gS S pools bal rolls prices down ahead ms cs []) BndL.nil.c.c.c.c.c.c FctL.nil.c.c LenL.nil.c.c.c.c.c.c.c.c (.d (aE H.hx) (.d (aS H.hms) (.d (aS H.hcs) (.d (aI H.hm) (.d (aI H.hc) .nil)))))
 exact CK.way _ ev [(sN (.q 8 0) (.o 2)),.v 0,.v 2] (.i 7) (by decide +kernel) kn
abbrev b_At_ok:Bk:={ vars:=gV++[(0,1),(0,30)],facts:=gF++[([([2],-2),([3],2),([6],-1)],1,10)],lens:=gL++[(15,[([7],1)])],ats:=gA++[(7,[([2],2),([6],1)],[.q 3 15,.o 5,.o 6,.o 7])] }
theorem At_ok {S:StD} {e item now m c:Int} {closed:Bool} {pools:List PoolD} {bal:List Int} {rolls:List (List Int)} {prices down:List Int} {ahead:List EntC} {ms cs:List Int} (H:Wx S e item now closed pools bal rolls prices down ahead ms cs m c) {L:List Lay} {p0 p1 p2 loc k:Int} (l0:0≤loc) (l1:loc≤1) (h_k:k=2*item+loc) (hp:pools[k.toNat]?=some ⟨L,p0,p1,p2⟩) (hl:L.length≤30)  :
 Ck 16 [S.av,.i e,.i item,.i loc] (PoolD.av ⟨L,p0,p1,p2⟩):=by
 have:=H.bd
 obtain⟨ρ,hρ⟩:=rh [e,(S.ents.length:Int),item,(S.weights.length:Int),m,c,loc,(L.length:Int)]
 obtain rfl:=eqv hρ h_k [([2],2),([6],1)]
 subst hρ
 let ev:=evS b_At_ok [e,(S.ents.length:Int),item,(S.weights.length:Int),m,c,loc,(L.length:Int)] [.int .i64 S.entities,.int .i64 S.periods,.int .i64 S.done,.int .i64 now,.bool closed,.int .i64 p0,.int .i64 p1,.int .i64 p2] (gS S pools bal rolls prices down ahead ms cs [laysR L]) BndL.nil.c.c.c.c.c.c.c.c FctL.nil.c.c.c LenL.nil.c.c.c.c.c.c.c.c.c (.d (aE H.hx) (.d (aS H.hms) (.d (aS H.hcs) (.d (aI H.hm) (.d (aI H.hc) (.d (aP hp) .nil))))))
 exact CK.way _ ev [(sN (.q 8 0) (.o 2)),.v 0,.v 2,.v 6] (.agg [.q 3 15,.o 5,.o 6,.o 7]) (by decide +kernel) kn
abbrev b_Worth_0:Bk:={ vars:=[w64,w64],extV:=[(16,[(sN (.q 8 0) (.o 2)),.v 0,.v 1,.i 0],(.agg [.q 3 7,.o 12,.o 13,.o 14])),
 (59,[.q 3 7],(.tup [(.agg [.o 3,.o 4,.o 5]),.i 0])),
 (16,[(sN (.q 8 0) (.o 2)),.v 0,.v 1,.i 1],(.agg [.q 3 8,.o 15,.o 16,.o 17])),
 (59,[.q 3 8],(.tup [(.agg [.o 6,.o 7,.o 8]),.i 0])),
 (60,[(.lit 1 [[.o 3],[.o 6]])],(.tup [.o 9,.i 0])),
 (60,[(.lit 1 [[.o 4],[.o 7]])],(.tup [.o 10,.i 0])),
 (60,[(.lit 1 [[.o 5],[.o 8]])],(.tup [.o 11,.i 0]))] }
theorem Worth_0 {S:StD} {e item q0 v0 p0 q1 v1 p1 q v p a0 a1 a2 b0 b1 b2:Int} {L0 L1:List Lay} (he:I64 e) (hi:I64 item) (h0:Ck 16 [S.av,.i e,.i item,.i 0] (PoolD.av ⟨L0,a0,a1,a2⟩)) (h1:Ck 16 [S.av,.i e,.i item,.i 1] (PoolD.av ⟨L1,b0,b1,b2⟩)) (t0:Ck 59 [.lit 3 (laysR L0)] (.tup [(⟨q0,v0,p0⟩:Lay).av,.i 0])) (t1:Ck 59 [.lit 3 (laysR L1)] (.tup [(⟨q1,v1,p1⟩:Lay).av,.i 0])) (sq:Ck 60 [.lit 1 (intsR [q0,q1])] (.tup [.i q,.i 0])) (sv:Ck 60 [.lit 1 (intsR [v0,v1])] (.tup [.i v,.i 0])) (sp:Ck 60 [.lit 1 (intsR [p0,p1])] (.tup [.i p,.i 0]))  :
 Ck 29 [S.av,.i e,.i item] (.tup [(⟨q,v,p⟩:Lay).av,.c (.bool true)]):=by
 have:=he.lo;have:=he.hi;have:=hi.lo;have:=hi.hi
 let ev:=evS b_Worth_0 [e,item] [.int .i64 S.entities,.int .i64 S.periods,.int .i64 S.done,.int .i64 q0,.int .i64 v0,.int .i64 p0,.int .i64 q1,.int .i64 v1,.int .i64 p1,.int .i64 q,.int .i64 v,.int .i64 p,.int .i64 a0,.int .i64 a1,.int .i64 a2,.int .i64 b0,.int .i64 b1,.int .i64 b2] [entsR S.ents,intsR S.weights,intssR S.methods,intssR S.costs,rcsR S.receipts,sasR S.sales,trsR S.transits,laysR L0,laysR L1] BndL.nil.c.c FctL.nil LenL.nil (.nil)
 exact CK.way _ ev [(sN (.q 8 0) (.o 2)),.v 0,.v 1] (.tup [(.agg [.o 9,.o 10,.o 11]),(.c (.bool true))]) (by decide +kernel) (kc h0 (kc t0 (kc h1 (kc t1 (kc sq (kc sv (kc sp kn)))))))
abbrev b_Worth_1:Bk:={ vars:=[w64,w64],extV:=[(16,[(sN (.q 8 0) (.o 2)),.v 0,.v 1,.i 0],(.agg [.q 3 7,.o 12,.o 13,.o 14])),
 (59,[.q 3 7],(.tup [(.agg [.o 3,.o 4,.o 5]),.i 0])),
 (16,[(sN (.q 8 0) (.o 2)),.v 0,.v 1,.i 1],(.agg [.q 3 8,.o 15,.o 16,.o 17])),
 (59,[.q 3 8],(.tup [(.agg [.o 6,.o 7,.o 8]),.i 0])),
 (60,[(.lit 1 [[.o 3],[.o 6]])],(.tup [.o 9,.i 2])),
 (60,[(.lit 1 [[.o 4],[.o 7]])],(.tup [.o 10,.i 0])),
 (60,[(.lit 1 [[.o 5],[.o 8]])],(.tup [.o 11,.i 0]))] }
theorem Worth_1 {S:StD} {e item q0 v0 p0 q1 v1 p1 q v p a0 a1 a2 b0 b1 b2:Int} {L0 L1:List Lay} (he:I64 e) (hi:I64 item) (h0:Ck 16 [S.av,.i e,.i item,.i 0] (PoolD.av ⟨L0,a0,a1,a2⟩)) (h1:Ck 16 [S.av,.i e,.i item,.i 1] (PoolD.av ⟨L1,b0,b1,b2⟩)) (t0:Ck 59 [.lit 3 (laysR L0)] (.tup [(⟨q0,v0,p0⟩:Lay).av,.i 0])) (t1:Ck 59 [.lit 3 (laysR L1)] (.tup [(⟨q1,v1,p1⟩:Lay).av,.i 0])) (sq:Ck 60 [.lit 1 (intsR [q0,q1])] (.tup [.i q,.i 2])) (sv:Ck 60 [.lit 1 (intsR [v0,v1])] (.tup [.i v,.i 0])) (sp:Ck 60 [.lit 1 (intsR [p0,p1])] (.tup [.i p,.i 0]))  :
 Ck 29 [S.av,.i e,.i item] (.tup [(⟨q,v,p⟩:Lay).av,.c (.bool false)]):=by
 have:=he.lo;have:=he.hi;have:=hi.lo;have:=hi.hi
 let ev:=evS b_Worth_1 [e,item] [.int .i64 S.entities,.int .i64 S.periods,.int .i64 S.done,.int .i64 q0,.int .i64 v0,.int .i64 p0,.int .i64 q1,.int .i64 v1,.int .i64 p1,.int .i64 q,.int .i64 v,.int .i64 p,.int .i64 a0,.int .i64 a1,.int .i64 a2,.int .i64 b0,.int .i64 b1,.int .i64 b2] [entsR S.ents,intsR S.weights,intssR S.methods,intssR S.costs,rcsR S.receipts,sasR S.sales,trsR S.transits,laysR L0,laysR L1] BndL.nil.c.c FctL.nil LenL.nil (.nil)
 exact CK.way _ ev [(sN (.q 8 0) (.o 2)),.v 0,.v 1] (.tup [(.agg [.o 9,.o 10,.o 11]),(.c (.bool false))]) (by decide +kernel) (kc h0 (kc t0 (kc h1 (kc t1 (kc sq (kc sv (kc sp kn)))))))
abbrev b_Worth_2:Bk:={ vars:=[w64,w64],extV:=[(16,[(sN (.q 8 0) (.o 2)),.v 0,.v 1,.i 0],(.agg [.q 3 7,.o 12,.o 13,.o 14])),
 (59,[.q 3 7],(.tup [(.agg [.o 3,.o 4,.o 5]),.i 0])),
 (16,[(sN (.q 8 0) (.o 2)),.v 0,.v 1,.i 1],(.agg [.q 3 8,.o 15,.o 16,.o 17])),
 (59,[.q 3 8],(.tup [(.agg [.o 6,.o 7,.o 8]),.i 0])),
 (60,[(.lit 1 [[.o 3],[.o 6]])],(.tup [.o 9,.i 0])),
 (60,[(.lit 1 [[.o 4],[.o 7]])],(.tup [.o 10,.i 2])),
 (60,[(.lit 1 [[.o 5],[.o 8]])],(.tup [.o 11,.i 0]))] }
theorem Worth_2 {S:StD} {e item q0 v0 p0 q1 v1 p1 q v p a0 a1 a2 b0 b1 b2:Int} {L0 L1:List Lay} (he:I64 e) (hi:I64 item) (h0:Ck 16 [S.av,.i e,.i item,.i 0] (PoolD.av ⟨L0,a0,a1,a2⟩)) (h1:Ck 16 [S.av,.i e,.i item,.i 1] (PoolD.av ⟨L1,b0,b1,b2⟩)) (t0:Ck 59 [.lit 3 (laysR L0)] (.tup [(⟨q0,v0,p0⟩:Lay).av,.i 0])) (t1:Ck 59 [.lit 3 (laysR L1)] (.tup [(⟨q1,v1,p1⟩:Lay).av,.i 0])) (sq:Ck 60 [.lit 1 (intsR [q0,q1])] (.tup [.i q,.i 0])) (sv:Ck 60 [.lit 1 (intsR [v0,v1])] (.tup [.i v,.i 2])) (sp:Ck 60 [.lit 1 (intsR [p0,p1])] (.tup [.i p,.i 0]))  :
 Ck 29 [S.av,.i e,.i item] (.tup [(⟨q,v,p⟩:Lay).av,.c (.bool false)]):=by
 have:=he.lo;have:=he.hi;have:=hi.lo;have:=hi.hi
 let ev:=evS b_Worth_2 [e,item] [.int .i64 S.entities,.int .i64 S.periods,.int .i64 S.done,.int .i64 q0,.int .i64 v0,.int .i64 p0,.int .i64 q1,.int .i64 v1,.int .i64 p1,.int .i64 q,.int .i64 v,.int .i64 p,.int .i64 a0,.int .i64 a1,.int .i64 a2,.int .i64 b0,.int .i64 b1,.int .i64 b2] [entsR S.ents,intsR S.weights,intssR S.methods,intssR S.costs,rcsR S.receipts,sasR S.sales,trsR S.transits,laysR L0,laysR L1] BndL.nil.c.c FctL.nil LenL.nil (.nil)
 exact CK.way _ ev [(sN (.q 8 0) (.o 2)),.v 0,.v 1] (.tup [(.agg [.o 9,.o 10,.o 11]),(.c (.bool false))]) (by decide +kernel) (kc h0 (kc t0 (kc h1 (kc t1 (kc sq (kc sv (kc sp kn)))))))
abbrev b_Worth_3:Bk:={ vars:=[w64,w64],extV:=[(16,[(sN (.q 8 0) (.o 2)),.v 0,.v 1,.i 0],(.agg [.q 3 7,.o 12,.o 13,.o 14])),
 (59,[.q 3 7],(.tup [(.agg [.o 3,.o 4,.o 5]),.i 0])),
 (16,[(sN (.q 8 0) (.o 2)),.v 0,.v 1,.i 1],(.agg [.q 3 8,.o 15,.o 16,.o 17])),
 (59,[.q 3 8],(.tup [(.agg [.o 6,.o 7,.o 8]),.i 0])),
 (60,[(.lit 1 [[.o 3],[.o 6]])],(.tup [.o 9,.i 2])),
 (60,[(.lit 1 [[.o 4],[.o 7]])],(.tup [.o 10,.i 2])),
 (60,[(.lit 1 [[.o 5],[.o 8]])],(.tup [.o 11,.i 0]))] }
theorem Worth_3 {S:StD} {e item q0 v0 p0 q1 v1 p1 q v p a0 a1 a2 b0 b1 b2:Int} {L0 L1:List Lay} (he:I64 e) (hi:I64 item) (h0:Ck 16 [S.av,.i e,.i item,.i 0] (PoolD.av ⟨L0,a0,a1,a2⟩)) (h1:Ck 16 [S.av,.i e,.i item,.i 1] (PoolD.av ⟨L1,b0,b1,b2⟩)) (t0:Ck 59 [.lit 3 (laysR L0)] (.tup [(⟨q0,v0,p0⟩:Lay).av,.i 0])) (t1:Ck 59 [.lit 3 (laysR L1)] (.tup [(⟨q1,v1,p1⟩:Lay).av,.i 0])) (sq:Ck 60 [.lit 1 (intsR [q0,q1])] (.tup [.i q,.i 2])) (sv:Ck 60 [.lit 1 (intsR [v0,v1])] (.tup [.i v,.i 2])) (sp:Ck 60 [.lit 1 (intsR [p0,p1])] (.tup [.i p,.i 0]))  :
 Ck 29 [S.av,.i e,.i item] (.tup [(⟨q,v,p⟩:Lay).av,.c (.bool false)]):=by
 have:=he.lo;have:=he.hi;have:=hi.lo;have:=hi.hi
 let ev:=evS b_Worth_3 [e,item] [.int .i64 S.entities,.int .i64 S.periods,.int .i64 S.done,.int .i64 q0,.int .i64 v0,.int .i64 p0,.int .i64 q1,.int .i64 v1,.int .i64 p1,.int .i64 q,.int .i64 v,.int .i64 p,.int .i64 a0,.int .i64 a1,.int .i64 a2,.int .i64 b0,.int .i64 b1,.int .i64 b2] [entsR S.ents,intsR S.weights,intssR S.methods,intssR S.costs,rcsR S.receipts,sasR S.sales,trsR S.transits,laysR L0,laysR L1] BndL.nil.c.c FctL.nil LenL.nil (.nil)
 exact CK.way _ ev [(sN (.q 8 0) (.o 2)),.v 0,.v 1] (.tup [(.agg [.o 9,.o 10,.o 11]),(.c (.bool false))]) (by decide +kernel) (kc h0 (kc t0 (kc h1 (kc t1 (kc sq (kc sv (kc sp kn)))))))
abbrev b_Worth_4:Bk:={ vars:=[w64,w64],extV:=[(16,[(sN (.q 8 0) (.o 2)),.v 0,.v 1,.i 0],(.agg [.q 3 7,.o 12,.o 13,.o 14])),
 (59,[.q 3 7],(.tup [(.agg [.o 3,.o 4,.o 5]),.i 0])),
 (16,[(sN (.q 8 0) (.o 2)),.v 0,.v 1,.i 1],(.agg [.q 3 8,.o 15,.o 16,.o 17])),
 (59,[.q 3 8],(.tup [(.agg [.o 6,.o 7,.o 8]),.i 0])),
 (60,[(.lit 1 [[.o 3],[.o 6]])],(.tup [.o 9,.i 0])),
 (60,[(.lit 1 [[.o 4],[.o 7]])],(.tup [.o 10,.i 0])),
 (60,[(.lit 1 [[.o 5],[.o 8]])],(.tup [.o 11,.i 2]))] }
theorem Worth_4 {S:StD} {e item q0 v0 p0 q1 v1 p1 q v p a0 a1 a2 b0 b1 b2:Int} {L0 L1:List Lay} (he:I64 e) (hi:I64 item) (h0:Ck 16 [S.av,.i e,.i item,.i 0] (PoolD.av ⟨L0,a0,a1,a2⟩)) (h1:Ck 16 [S.av,.i e,.i item,.i 1] (PoolD.av ⟨L1,b0,b1,b2⟩)) (t0:Ck 59 [.lit 3 (laysR L0)] (.tup [(⟨q0,v0,p0⟩:Lay).av,.i 0])) (t1:Ck 59 [.lit 3 (laysR L1)] (.tup [(⟨q1,v1,p1⟩:Lay).av,.i 0])) (sq:Ck 60 [.lit 1 (intsR [q0,q1])] (.tup [.i q,.i 0])) (sv:Ck 60 [.lit 1 (intsR [v0,v1])] (.tup [.i v,.i 0])) (sp:Ck 60 [.lit 1 (intsR [p0,p1])] (.tup [.i p,.i 2]))  :
 Ck 29 [S.av,.i e,.i item] (.tup [(⟨q,v,p⟩:Lay).av,.c (.bool false)]):=by
 have:=he.lo;have:=he.hi;have:=hi.lo;have:=hi.hi
 let ev:=evS b_Worth_4 [e,item] [.int .i64 S.entities,.int .i64 S.periods,.int .i64 S.done,.int .i64 q0,.int .i64 v0,.int .i64 p0,.int .i64 q1,.int .i64 v1,.int .i64 p1,.int .i64 q,.int .i64 v,.int .i64 p,.int .i64 a0,.int .i64 a1,.int .i64 a2,.int .i64 b0,.int .i64 b1,.int .i64 b2] [entsR S.ents,intsR S.weights,intssR S.methods,intssR S.costs,rcsR S.receipts,sasR S.sales,trsR S.transits,laysR L0,laysR L1] BndL.nil.c.c FctL.nil LenL.nil (.nil)
 exact CK.way _ ev [(sN (.q 8 0) (.o 2)),.v 0,.v 1] (.tup [(.agg [.o 9,.o 10,.o 11]),(.c (.bool false))]) (by decide +kernel) (kc h0 (kc t0 (kc h1 (kc t1 (kc sq (kc sv (kc sp kn)))))))
abbrev b_Worth_5:Bk:={ vars:=[w64,w64],extV:=[(16,[(sN (.q 8 0) (.o 2)),.v 0,.v 1,.i 0],(.agg [.q 3 7,.o 12,.o 13,.o 14])),
 (59,[.q 3 7],(.tup [(.agg [.o 3,.o 4,.o 5]),.i 0])),
 (16,[(sN (.q 8 0) (.o 2)),.v 0,.v 1,.i 1],(.agg [.q 3 8,.o 15,.o 16,.o 17])),
 (59,[.q 3 8],(.tup [(.agg [.o 6,.o 7,.o 8]),.i 0])),
 (60,[(.lit 1 [[.o 3],[.o 6]])],(.tup [.o 9,.i 2])),
 (60,[(.lit 1 [[.o 4],[.o 7]])],(.tup [.o 10,.i 0])),
 (60,[(.lit 1 [[.o 5],[.o 8]])],(.tup [.o 11,.i 2]))] }
theorem Worth_5 {S:StD} {e item q0 v0 p0 q1 v1 p1 q v p a0 a1 a2 b0 b1 b2:Int} {L0 L1:List Lay} (he:I64 e) (hi:I64 item) (h0:Ck 16 [S.av,.i e,.i item,.i 0] (PoolD.av ⟨L0,a0,a1,a2⟩)) (h1:Ck 16 [S.av,.i e,.i item,.i 1] (PoolD.av ⟨L1,b0,b1,b2⟩)) (t0:Ck 59 [.lit 3 (laysR L0)] (.tup [(⟨q0,v0,p0⟩:Lay).av,.i 0])) (t1:Ck 59 [.lit 3 (laysR L1)] (.tup [(⟨q1,v1,p1⟩:Lay).av,.i 0])) (sq:Ck 60 [.lit 1 (intsR [q0,q1])] (.tup [.i q,.i 2])) (sv:Ck 60 [.lit 1 (intsR [v0,v1])] (.tup [.i v,.i 0])) (sp:Ck 60 [.lit 1 (intsR [p0,p1])] (.tup [.i p,.i 2]))  :
 Ck 29 [S.av,.i e,.i item] (.tup [(⟨q,v,p⟩:Lay).av,.c (.bool false)]):=by
 have:=he.lo;have:=he.hi;have:=hi.lo;have:=hi.hi
 let ev:=evS b_Worth_5 [e,item] [.int .i64 S.entities,.int .i64 S.periods,.int .i64 S.done,.int .i64 q0,.int .i64 v0,.int .i64 p0,.int .i64 q1,.int .i64 v1,.int .i64 p1,.int .i64 q,.int .i64 v,.int .i64 p,.int .i64 a0,.int .i64 a1,.int .i64 a2,.int .i64 b0,.int .i64 b1,.int .i64 b2] [entsR S.ents,intsR S.weights,intssR S.methods,intssR S.costs,rcsR S.receipts,sasR S.sales,trsR S.transits,laysR L0,laysR L1] BndL.nil.c.c FctL.nil LenL.nil (.nil)
 exact CK.way _ ev [(sN (.q 8 0) (.o 2)),.v 0,.v 1] (.tup [(.agg [.o 9,.o 10,.o 11]),(.c (.bool false))]) (by decide +kernel) (kc h0 (kc t0 (kc h1 (kc t1 (kc sq (kc sv (kc sp kn)))))))
abbrev b_Worth_6:Bk:={ vars:=[w64,w64],extV:=[(16,[(sN (.q 8 0) (.o 2)),.v 0,.v 1,.i 0],(.agg [.q 3 7,.o 12,.o 13,.o 14])),
 (59,[.q 3 7],(.tup [(.agg [.o 3,.o 4,.o 5]),.i 0])),
 (16,[(sN (.q 8 0) (.o 2)),.v 0,.v 1,.i 1],(.agg [.q 3 8,.o 15,.o 16,.o 17])),
 (59,[.q 3 8],(.tup [(.agg [.o 6,.o 7,.o 8]),.i 0])),
 (60,[(.lit 1 [[.o 3],[.o 6]])],(.tup [.o 9,.i 0])),
 (60,[(.lit 1 [[.o 4],[.o 7]])],(.tup [.o 10,.i 2])),
 (60,[(.lit 1 [[.o 5],[.o 8]])],(.tup [.o 11,.i 2]))] }
theorem Worth_6 {S:StD} {e item q0 v0 p0 q1 v1 p1 q v p a0 a1 a2 b0 b1 b2:Int} {L0 L1:List Lay} (he:I64 e) (hi:I64 item) (h0:Ck 16 [S.av,.i e,.i item,.i 0] (PoolD.av ⟨L0,a0,a1,a2⟩)) (h1:Ck 16 [S.av,.i e,.i item,.i 1] (PoolD.av ⟨L1,b0,b1,b2⟩)) (t0:Ck 59 [.lit 3 (laysR L0)] (.tup [(⟨q0,v0,p0⟩:Lay).av,.i 0])) (t1:Ck 59 [.lit 3 (laysR L1)] (.tup [(⟨q1,v1,p1⟩:Lay).av,.i 0])) (sq:Ck 60 [.lit 1 (intsR [q0,q1])] (.tup [.i q,.i 0])) (sv:Ck 60 [.lit 1 (intsR [v0,v1])] (.tup [.i v,.i 2])) (sp:Ck 60 [.lit 1 (intsR [p0,p1])] (.tup [.i p,.i 2]))  :
 Ck 29 [S.av,.i e,.i item] (.tup [(⟨q,v,p⟩:Lay).av,.c (.bool false)]):=by
 have:=he.lo;have:=he.hi;have:=hi.lo;have:=hi.hi
 let ev:=evS b_Worth_6 [e,item] [.int .i64 S.entities,.int .i64 S.periods,.int .i64 S.done,.int .i64 q0,.int .i64 v0,.int .i64 p0,.int .i64 q1,.int .i64 v1,.int .i64 p1,.int .i64 q,.int .i64 v,.int .i64 p,.int .i64 a0,.int .i64 a1,.int .i64 a2,.int .i64 b0,.int .i64 b1,.int .i64 b2] [entsR S.ents,intsR S.weights,intssR S.methods,intssR S.costs,rcsR S.receipts,sasR S.sales,trsR S.transits,laysR L0,laysR L1] BndL.nil.c.c FctL.nil LenL.nil (.nil)
 exact CK.way _ ev [(sN (.q 8 0) (.o 2)),.v 0,.v 1] (.tup [(.agg [.o 9,.o 10,.o 11]),(.c (.bool false))]) (by decide +kernel) (kc h0 (kc t0 (kc h1 (kc t1 (kc sq (kc sv (kc sp kn)))))))
abbrev b_Worth_7:Bk:={ vars:=[w64,w64],extV:=[(16,[(sN (.q 8 0) (.o 2)),.v 0,.v 1,.i 0],(.agg [.q 3 7,.o 12,.o 13,.o 14])),
 (59,[.q 3 7],(.tup [(.agg [.o 3,.o 4,.o 5]),.i 0])),
 (16,[(sN (.q 8 0) (.o 2)),.v 0,.v 1,.i 1],(.agg [.q 3 8,.o 15,.o 16,.o 17])),
 (59,[.q 3 8],(.tup [(.agg [.o 6,.o 7,.o 8]),.i 0])),
 (60,[(.lit 1 [[.o 3],[.o 6]])],(.tup [.o 9,.i 2])),
 (60,[(.lit 1 [[.o 4],[.o 7]])],(.tup [.o 10,.i 2])),
 (60,[(.lit 1 [[.o 5],[.o 8]])],(.tup [.o 11,.i 2]))] }
theorem Worth_7 {S:StD} {e item q0 v0 p0 q1 v1 p1 q v p a0 a1 a2 b0 b1 b2:Int} {L0 L1:List Lay} (he:I64 e) (hi:I64 item) (h0:Ck 16 [S.av,.i e,.i item,.i 0] (PoolD.av ⟨L0,a0,a1,a2⟩)) (h1:Ck 16 [S.av,.i e,.i item,.i 1] (PoolD.av ⟨L1,b0,b1,b2⟩)) (t0:Ck 59 [.lit 3 (laysR L0)] (.tup [(⟨q0,v0,p0⟩:Lay).av,.i 0])) (t1:Ck 59 [.lit 3 (laysR L1)] (.tup [(⟨q1,v1,p1⟩:Lay).av,.i 0])) (sq:Ck 60 [.lit 1 (intsR [q0,q1])] (.tup [.i q,.i 2])) (sv:Ck 60 [.lit 1 (intsR [v0,v1])] (.tup [.i v,.i 2])) (sp:Ck 60 [.lit 1 (intsR [p0,p1])] (.tup [.i p,.i 2]))  :
 Ck 29 [S.av,.i e,.i item] (.tup [(⟨q,v,p⟩:Lay).av,.c (.bool false)]):=by
 have:=he.lo;have:=he.hi;have:=hi.lo;have:=hi.hi
 let ev:=evS b_Worth_7 [e,item] [.int .i64 S.entities,.int .i64 S.periods,.int .i64 S.done,.int .i64 q0,.int .i64 v0,.int .i64 p0,.int .i64 q1,.int .i64 v1,.int .i64 p1,.int .i64 q,.int .i64 v,.int .i64 p,.int .i64 a0,.int .i64 a1,.int .i64 a2,.int .i64 b0,.int .i64 b1,.int .i64 b2] [entsR S.ents,intsR S.weights,intssR S.methods,intssR S.costs,rcsR S.receipts,sasR S.sales,trsR S.transits,laysR L0,laysR L1] BndL.nil.c.c FctL.nil LenL.nil (.nil)
 exact CK.way _ ev [(sN (.q 8 0) (.o 2)),.v 0,.v 1] (.tup [(.agg [.o 9,.o 10,.o 11]),(.c (.bool false))]) (by decide +kernel) (kc h0 (kc t0 (kc h1 (kc t1 (kc sq (kc sv (kc sp kn)))))))
abbrev b_Worth_is_true:Bk:={ vars:=[w64,w64],extV:=[(29,[(sN (.q 8 0) (.o 2)),.v 0,.v 1],(.tup [(.agg [.o 3,.o 4,.o 5]),(.c (.bool true))]))] }
theorem Worth_is_true {S:StD} {e item q v p:Int} (he:I64 e) (hi:I64 item) (hw:Ck 29 [S.av,.i e,.i item] (.tup [(⟨q,v,p⟩:Lay).av,.c (.bool true)]))  :
 Ck 15 [S.av,.i e,.i item] (Lay.av ⟨q,v,p⟩):=by
 have:=he.lo;have:=he.hi;have:=hi.lo;have:=hi.hi
 let ev:=evS b_Worth_is_true [e,item] [.int .i64 S.entities,.int .i64 S.periods,.int .i64 S.done,.int .i64 q,.int .i64 v,.int .i64 p] [entsR S.ents,intsR S.weights,intssR S.methods,intssR S.costs,rcsR S.receipts,sasR S.sales,trsR S.transits] BndL.nil.c.c FctL.nil LenL.nil (.nil)
 exact CK.way _ ev [(sN (.q 8 0) (.o 2)),.v 0,.v 1] (.agg [.o 3,.o 4,.o 5]) (by decide +kernel) (kc hw kn)
abbrev b_Worth_is_false:Bk:={ vars:=[w64,w64],extV:=[(29,[(sN (.q 8 0) (.o 2)),.v 0,.v 1],(.tup [(.agg [.o 3,.o 4,.o 5]),(.c (.bool false))]))] }
theorem Worth_is_false {S:StD} {e item q v p:Int} (he:I64 e) (hi:I64 item) (hw:Ck 29 [S.av,.i e,.i item] (.tup [(⟨q,v,p⟩:Lay).av,.c (.bool false)]))  :
 Ck 15 [S.av,.i e,.i item] (Lay.av ⟨q,v,p⟩):=by
 have:=he.lo;have:=he.hi;have:=hi.lo;have:=hi.hi
 let ev:=evS b_Worth_is_false [e,item] [.int .i64 S.entities,.int .i64 S.periods,.int .i64 S.done,.int .i64 q,.int .i64 v,.int .i64 p] [entsR S.ents,intsR S.weights,intssR S.methods,intssR S.costs,rcsR S.receipts,sasR S.sales,trsR S.transits] BndL.nil.c.c FctL.nil LenL.nil (.nil)
 exact CK.way _ ev [(sN (.q 8 0) (.o 2)),.v 0,.v 1] (.agg [.o 3,.o 4,.o 5]) (by decide +kernel) (kc hw kn)
abbrev b_Bring_err:Bk:={ vars:=gV++[(0,1),(1,20)],facts:=gF++[([([2],-2),([3],2),([6],-1)],1,10)],lens:=gL,ats:=gA++[(7,[([2],2),([6],1)],[.q 3 15,.o 5,.o 6,.o 7])],extV:=[(158,[.v 4,.v 5,(.agg [.q 3 15,.o 5,.o 6,.o 7]),(.agg [.o 8,.o 10,.o 9])],(.tup [(.agg [.q 3 16,.o 5,.o 6,.o 7]),.o 11,.v 7]))] }
theorem Bring_err {S:StD} {e item now m c:Int} {closed:Bool} {pools:List PoolD} {bal:List Int} {rolls:List (List Int)} {prices down:List Int} {ahead:List EntC} {ms cs:List Int} (H:Wx S e item now closed pools bal rolls prices down ahead ms cs m c) {L:List Lay} {p0 p1 p2 loc k:Int} (l0:0≤loc) (l1:loc≤1) (h_k:k=2*item+loc) (hp:pools[k.toNat]?=some ⟨L,p0,p1,p2⟩) {x y z f up:Int} {L2:List Lay} {W:Lay} (f1:1≤f) (f2:f≤20) (hI:Ck 158 [.i m,.i c,PoolD.av ⟨L,p0,p1,p2⟩,Lay.av ⟨x,y,z⟩] (.tup [PoolD.av ⟨L2,p0,p1,p2⟩,.i up,.i f]))  :
 Ck 116 [S.av,.i e,.i item,.i loc,Lay.av ⟨x,y,z⟩] (.tup [S.av,.i 0,.i 0,.i f]):=by
 have:=H.bd
 obtain⟨ρ,hρ⟩:=rh [e,(S.ents.length:Int),item,(S.weights.length:Int),m,c,loc,f]
 obtain rfl:=eqv hρ h_k [([2],2),([6],1)]
 subst hρ
 let ev:=evS b_Bring_err [e,(S.ents.length:Int),item,(S.weights.length:Int),m,c,loc,f] [.int .i64 S.entities,.int .i64 S.periods,.int .i64 S.done,.int .i64 now,.bool closed,.int .i64 p0,.int .i64 p1,.int .i64 p2,.int .i64 x,.int .i64 z,.int .i64 y,.int .i64 up] (gS S pools bal rolls prices down ahead ms cs [laysR L,laysR L2]) BndL.nil.c.c.c.c.c.c.c.c FctL.nil.c.c.c LenL.nil.c.c.c.c.c.c.c.c (.d (aE H.hx) (.d (aS H.hms) (.d (aS H.hcs) (.d (aI H.hm) (.d (aI H.hc) (.d (aP hp) .nil))))))
 exact CK.way _ ev [(sN (.q 8 0) (.o 2)),.v 0,.v 2,.v 6,(.agg [.o 8,.o 10,.o 9])] (.tup [(sN (.q 8 0) (.o 2)),.i 0,.i 0,.v 7]) (by decide +kernel) (kc hI kn)
abbrev b_Bring_big:Bk:={ vars:=gV++[(0,1)],facts:=gF++[([([2],-2),([3],2),([6],-1)],1,10)],lens:=gL,ats:=gA++[(7,[([2],2),([6],1)],[.q 3 15,.o 5,.o 6,.o 7])],extV:=[(158,[.v 4,.v 5,(.agg [.q 3 15,.o 5,.o 6,.o 7]),(.agg [.o 8,.o 10,.o 9])],(.tup [(.agg [.q 3 16,.o 5,.o 6,.o 7]),.o 11,.i 0])),
 (29,[(sN (.seq 8 0 [([([0],1)],[.o 3,.o 4,(.seq 4 7 [([([2],2),([6],1)],[.q 3 16,.o 5,.o 6,.o 7])] []),.q 1 8,.q 11 9,.q 1 10,.q 1 11,.q 8 12])] []) (.o 2)),.v 0,.v 2],(.tup [(.agg [.o 12,.o 13,.o 14]),(.c (.bool false))]))] }
theorem Bring_big {S:StD} {e item now m c:Int} {closed:Bool} {pools:List PoolD} {bal:List Int} {rolls:List (List Int)} {prices down:List Int} {ahead:List EntC} {ms cs:List Int} (H:Wx S e item now closed pools bal rolls prices down ahead ms cs m c) {L:List Lay} {p0 p1 p2 loc k:Int} (l0:0≤loc) (l1:loc≤1) (h_k:k=2*item+loc) (hp:pools[k.toNat]?=some ⟨L,p0,p1,p2⟩) {x y z f up:Int} {L2:List Lay} {W:Lay} (hI:Ck 158 [.i m,.i c,PoolD.av ⟨L,p0,p1,p2⟩,Lay.av ⟨x,y,z⟩] (.tup [PoolD.av ⟨L2,p0,p1,p2⟩,.i up,.i 0])) (hW:Ck 29 [(S.setRow e (entRw now closed ((poolsR pools).set k.toNat (PoolD.row ⟨L2,p0,p1,p2⟩)) (intsR bal) (rollsR rolls) (intsR prices) (intsR down) (aheadR ahead))),.i e,.i item] (.tup [W.av,.c (.bool false)]))  :
 Ck 116 [S.av,.i e,.i item,.i loc,Lay.av ⟨x,y,z⟩] (.tup [S.av,.i 0,.i 0,.i 2]):=by
 have:=H.bd
 obtain⟨ρ,hρ⟩:=rh [e,(S.ents.length:Int),item,(S.weights.length:Int),m,c,loc]
 obtain rfl:=eqv hρ h_k [([2],2),([6],1)]
 subst hρ
 let ev:=evS b_Bring_big [e,(S.ents.length:Int),item,(S.weights.length:Int),m,c,loc] [.int .i64 S.entities,.int .i64 S.periods,.int .i64 S.done,.int .i64 now,.bool closed,.int .i64 p0,.int .i64 p1,.int .i64 p2,.int .i64 x,.int .i64 z,.int .i64 y,.int .i64 up,.int .i64 W.q,.int .i64 W.v,.int .i64 W.p] (gS S pools bal rolls prices down ahead ms cs [laysR L,laysR L2]) BndL.nil.c.c.c.c.c.c.c FctL.nil.c.c.c LenL.nil.c.c.c.c.c.c.c.c (.d (aE H.hx) (.d (aS H.hms) (.d (aS H.hcs) (.d (aI H.hm) (.d (aI H.hc) (.d (aP hp) .nil))))))
 exact CK.way _ ev [(sN (.q 8 0) (.o 2)),.v 0,.v 2,.v 6,(.agg [.o 8,.o 10,.o 9])] (.tup [(sN (.q 8 0) (.o 2)),.i 0,.i 0,.i 2]) (by decide +kernel) (kc hI (kc hW kn))
abbrev b_Bring_swing:Bk:={ vars:=gV++[(0,1)],facts:=gF++[([([2],-2),([3],2),([6],-1)],1,10)],lens:=gL,ats:=gA++[(7,[([2],2),([6],1)],[.q 3 15,.o 5,.o 6,.o 7])],extV:=[(158,[.v 4,.v 5,(.agg [.q 3 15,.o 5,.o 6,.o 7]),(.agg [.o 8,.o 10,.o 9])],(.tup [(.agg [.q 3 16,.o 5,.o 6,.o 7]),.o 11,.i 0])),
 (29,[(sN (.seq 8 0 [([([0],1)],[.o 3,.o 4,(.seq 4 7 [([([2],2),([6],1)],[.q 3 16,.o 5,.o 6,.o 7])] []),.q 1 8,.q 11 9,.q 1 10,.q 1 11,.q 8 12])] []) (.o 2)),.v 0,.v 2],(.tup [(.agg [.o 12,.o 13,.o 14]),(.c (.bool true))])),
 (160,[(sN (.seq 8 0 [([([0],1)],[.o 3,.o 4,(.seq 4 7 [([([2],2),([6],1)],[.q 3 16,.o 5,.o 6,.o 7])] []),.q 1 8,.q 11 9,.q 1 10,.q 1 11,.q 8 12])] []) (.o 2)),.v 0,.v 2],(.c (.bool false)))] }
theorem Bring_swing {S:StD} {e item now m c:Int} {closed:Bool} {pools:List PoolD} {bal:List Int} {rolls:List (List Int)} {prices down:List Int} {ahead:List EntC} {ms cs:List Int} (H:Wx S e item now closed pools bal rolls prices down ahead ms cs m c) {L:List Lay} {p0 p1 p2 loc k:Int} (l0:0≤loc) (l1:loc≤1) (h_k:k=2*item+loc) (hp:pools[k.toNat]?=some ⟨L,p0,p1,p2⟩) {x y z f up:Int} {L2:List Lay} {W:Lay} (hI:Ck 158 [.i m,.i c,PoolD.av ⟨L,p0,p1,p2⟩,Lay.av ⟨x,y,z⟩] (.tup [PoolD.av ⟨L2,p0,p1,p2⟩,.i up,.i 0])) (hW:Ck 29 [(S.setRow e (entRw now closed ((poolsR pools).set k.toNat (PoolD.row ⟨L2,p0,p1,p2⟩)) (intsR bal) (rollsR rolls) (intsR prices) (intsR down) (aheadR ahead))),.i e,.i item] (.tup [W.av,.c (.bool true)])) (hS:Ck 160 [(S.setRow e (entRw now closed ((poolsR pools).set k.toNat (PoolD.row ⟨L2,p0,p1,p2⟩)) (intsR bal) (rollsR rolls) (intsR prices) (intsR down) (aheadR ahead))),.i e,.i item] (.c (.bool false)))  :
 Ck 116 [S.av,.i e,.i item,.i loc,Lay.av ⟨x,y,z⟩] (.tup [S.av,.i 0,.i 0,.i 2]):=by
 have:=H.bd
 obtain⟨ρ,hρ⟩:=rh [e,(S.ents.length:Int),item,(S.weights.length:Int),m,c,loc]
 obtain rfl:=eqv hρ h_k [([2],2),([6],1)]
 subst hρ
 let ev:=evS b_Bring_swing [e,(S.ents.length:Int),item,(S.weights.length:Int),m,c,loc] [.int .i64 S.entities,.int .i64 S.periods,.int .i64 S.done,.int .i64 now,.bool closed,.int .i64 p0,.int .i64 p1,.int .i64 p2,.int .i64 x,.int .i64 z,.int .i64 y,.int .i64 up,.int .i64 W.q,.int .i64 W.v,.int .i64 W.p] (gS S pools bal rolls prices down ahead ms cs [laysR L,laysR L2]) BndL.nil.c.c.c.c.c.c.c FctL.nil.c.c.c LenL.nil.c.c.c.c.c.c.c.c (.d (aE H.hx) (.d (aS H.hms) (.d (aS H.hcs) (.d (aI H.hm) (.d (aI H.hc) (.d (aP hp) .nil))))))
 exact CK.way _ ev [(sN (.q 8 0) (.o 2)),.v 0,.v 2,.v 6,(.agg [.o 8,.o 10,.o 9])] (.tup [(sN (.q 8 0) (.o 2)),.i 0,.i 0,.i 2]) (by decide +kernel) (kc hI (kc hW (kc hS kn)))
abbrev b_Bring_ok:Bk:={ vars:=gV++[(0,1),w60,w60],facts:=gF++[([([2],-2),([3],2),([6],-1)],1,10)],lens:=gL,ats:=gA++[(7,[([2],2),([6],1)],[.q 3 15,.o 5,.o 6,.o 7])],extV:=[(158,[.v 4,.v 5,(.agg [.q 3 15,.o 5,.o 6,.o 7]),(.agg [.o 8,.v 7,.o 9])],(.tup [(.agg [.q 3 16,.o 5,.o 6,.o 7]),.v 8,.i 0])),
 (29,[(sN (.seq 8 0 [([([0],1)],[.o 3,.o 4,(.seq 4 7 [([([2],2),([6],1)],[.q 3 16,.o 5,.o 6,.o 7])] []),.q 1 8,.q 11 9,.q 1 10,.q 1 11,.q 8 12])] []) (.o 2)),.v 0,.v 2],(.tup [(.agg [.o 10,.o 11,.o 12]),(.c (.bool true))])),
 (160,[(sN (.seq 8 0 [([([0],1)],[.o 3,.o 4,(.seq 4 7 [([([2],2),([6],1)],[.q 3 16,.o 5,.o 6,.o 7])] []),.q 1 8,.q 11 9,.q 1 10,.q 1 11,.q 8 12])] []) (.o 2)),.v 0,.v 2],(.c (.bool true)))] }
theorem Bring_ok {S:StD} {e item now m c:Int} {closed:Bool} {pools:List PoolD} {bal:List Int} {rolls:List (List Int)} {prices down:List Int} {ahead:List EntC} {ms cs:List Int} (H:Wx S e item now closed pools bal rolls prices down ahead ms cs m c) {L:List Lay} {p0 p1 p2 loc k:Int} (l0:0≤loc) (l1:loc≤1) (h_k:k=2*item+loc) (hp:pools[k.toNat]?=some ⟨L,p0,p1,p2⟩) {x y z f up:Int} {L2:List Lay} {W:Lay} (hI:Ck 158 [.i m,.i c,PoolD.av ⟨L,p0,p1,p2⟩,Lay.av ⟨x,y,z⟩] (.tup [PoolD.av ⟨L2,p0,p1,p2⟩,.i up,.i 0])) (hy:B60 y) (hu:B60 up) (hW:Ck 29 [(S.setRow e (entRw now closed ((poolsR pools).set k.toNat (PoolD.row ⟨L2,p0,p1,p2⟩)) (intsR bal) (rollsR rolls) (intsR prices) (intsR down) (aheadR ahead))),.i e,.i item] (.tup [W.av,.c (.bool true)])) (hS:Ck 160 [(S.setRow e (entRw now closed ((poolsR pools).set k.toNat (PoolD.row ⟨L2,p0,p1,p2⟩)) (intsR bal) (rollsR rolls) (intsR prices) (intsR down) (aheadR ahead))),.i e,.i item] (.c (.bool true))) {ca:Int} (h_ca:ca=y-up)  :
 Ck 116 [S.av,.i e,.i item,.i loc,Lay.av ⟨x,y,z⟩] (.tup [(S.setRow e (entRw now closed ((poolsR pools).set k.toNat (PoolD.row ⟨L2,p0,p1,p2⟩)) (intsR bal) (rollsR rolls) (intsR prices) (intsR down) (aheadR ahead))),.i ca,.i up,.i 0]):=by
 have:=H.bd
 obtain⟨ρ,hρ⟩:=rh [e,(S.ents.length:Int),item,(S.weights.length:Int),m,c,loc,y,up]
 obtain rfl:=eqv hρ h_ca [([7],1),([8],-1)]
 obtain rfl:=eqv hρ h_k [([2],2),([6],1)]
 subst hρ
 let ev:=evS b_Bring_ok [e,(S.ents.length:Int),item,(S.weights.length:Int),m,c,loc,y,up] [.int .i64 S.entities,.int .i64 S.periods,.int .i64 S.done,.int .i64 now,.bool closed,.int .i64 p0,.int .i64 p1,.int .i64 p2,.int .i64 x,.int .i64 z,.int .i64 W.q,.int .i64 W.v,.int .i64 W.p] (gS S pools bal rolls prices down ahead ms cs [laysR L,laysR L2]) BndL.nil.c.c.c.c.c.c.c.c.c FctL.nil.c.c.c LenL.nil.c.c.c.c.c.c.c.c (.d (aE H.hx) (.d (aS H.hms) (.d (aS H.hcs) (.d (aI H.hm) (.d (aI H.hc) (.d (aP hp) .nil))))))
 exact CK.way _ ev [(sN (.q 8 0) (.o 2)),.v 0,.v 2,.v 6,(.agg [.o 8,.v 7,.o 9])] (.tup [(sN (.seq 8 0 [([([0],1)],[.o 3,.o 4,(.seq 4 7 [([([2],2),([6],1)],[.q 3 16,.o 5,.o 6,.o 7])] []),.q 1 8,.q 11 9,.q 1 10,.q 1 11,.q 8 12])] []) (.o 2)),(.e [([7],1),([8],(-1))]),.v 8,.i 0]) (by decide +kernel) (kc hI (kc hW (kc hS kn)))
abbrev b_Fetch_err:Bk:={ vars:=gV++[(0,1),w64,w64,(1,20)],facts:=gF++[([([2],-2),([3],2),([6],-1)],1,10)],lens:=gL,ats:=gA++[(7,[([2],2),([6],1)],[.q 3 15,.o 5,.o 6,.o 7])],extV:=[(197,[.v 4,.v 5,(.agg [.q 3 15,.o 5,.o 6,.o 7]),.v 7,.v 8],(.tup [(.agg [.q 3 16,.o 11,.o 12,.o 13]),(.agg [.o 8,.o 9,.o 10]),.o 14,.v 9]))] }
theorem Fetch_err {S:StD} {e item now m c:Int} {closed:Bool} {pools:List PoolD} {bal:List Int} {rolls:List (List Int)} {prices down:List Int} {ahead:List EntC} {ms cs:List Int} (H:Wx S e item now closed pools bal rolls prices down ahead ms cs m c) {L:List Lay} {p0 p1 p2 loc k:Int} (l0:0≤loc) (l1:loc≤1) (h_k:k=2*item+loc) (hp:pools[k.toNat]?=some ⟨L,p0,p1,p2⟩) {kind q f x y z d0 d1 d2:Int} {wt:Bool} {L2:List Lay} (hk:I64 kind) (hq:I64 q) (f1:1≤f) (f2:f≤20) (hO:Ck 197 [.i m,.i c,PoolD.av ⟨L,p0,p1,p2⟩,.i kind,.i q] (.tup [PoolD.av ⟨L2,d0,d1,d2⟩,Lay.av ⟨x,y,z⟩,.c (.bool wt),.i f]))  :
 Ck 161 [S.av,.i e,.i item,.i loc,.i kind,.i q] (.tup [S.av,Lay.av ⟨0,0,0⟩,.c (.bool false),.i f]):=by
 have:=H.bd;have:=hk.lo;have:=hk.hi;have:=hq.lo;have:=hq.hi
 obtain⟨ρ,hρ⟩:=rh [e,(S.ents.length:Int),item,(S.weights.length:Int),m,c,loc,kind,q,f]
 obtain rfl:=eqv hρ h_k [([2],2),([6],1)]
 subst hρ
 let ev:=evS b_Fetch_err [e,(S.ents.length:Int),item,(S.weights.length:Int),m,c,loc,kind,q,f] [.int .i64 S.entities,.int .i64 S.periods,.int .i64 S.done,.int .i64 now,.bool closed,.int .i64 p0,.int .i64 p1,.int .i64 p2,.int .i64 x,.int .i64 y,.int .i64 z,.int .i64 d0,.int .i64 d1,.int .i64 d2,.bool wt] (gS S pools bal rolls prices down ahead ms cs [laysR L,laysR L2]) BndL.nil.c.c.c.c.c.c.c.c.c.c FctL.nil.c.c.c LenL.nil.c.c.c.c.c.c.c.c (.d (aE H.hx) (.d (aS H.hms) (.d (aS H.hcs) (.d (aI H.hm) (.d (aI H.hc) (.d (aP hp) .nil))))))
 exact CK.way _ ev [(sN (.q 8 0) (.o 2)),.v 0,.v 2,.v 6,.v 7,.v 8] (.tup [(sN (.q 8 0) (.o 2)),(.agg [.i 0,.i 0,.i 0]),(.c (.bool false)),.v 9]) (by decide +kernel) (kc hO kn)
abbrev b_Fetch_ok:Bk:={ vars:=gV++[(0,1),w64,w64],facts:=gF++[([([2],-2),([3],2),([6],-1)],1,10)],lens:=gL,ats:=gA++[(7,[([2],2),([6],1)],[.q 3 15,.o 5,.o 6,.o 7])],extV:=[(197,[.v 4,.v 5,(.agg [.q 3 15,.o 5,.o 6,.o 7]),.v 7,.v 8],(.tup [(.agg [.q 3 16,.o 11,.o 12,.o 13]),(.agg [.o 8,.o 9,.o 10]),.o 14,.i 0]))] }
theorem Fetch_ok {S:StD} {e item now m c:Int} {closed:Bool} {pools:List PoolD} {bal:List Int} {rolls:List (List Int)} {prices down:List Int} {ahead:List EntC} {ms cs:List Int} (H:Wx S e item now closed pools bal rolls prices down ahead ms cs m c) {L:List Lay} {p0 p1 p2 loc k:Int} (l0:0≤loc) (l1:loc≤1) (h_k:k=2*item+loc) (hp:pools[k.toNat]?=some ⟨L,p0,p1,p2⟩) {kind q f x y z d0 d1 d2:Int} {wt:Bool} {L2:List Lay} (hk:I64 kind) (hq:I64 q) (hO:Ck 197 [.i m,.i c,PoolD.av ⟨L,p0,p1,p2⟩,.i kind,.i q] (.tup [PoolD.av ⟨L2,d0,d1,d2⟩,Lay.av ⟨x,y,z⟩,.c (.bool wt),.i 0]))  :
 Ck 161 [S.av,.i e,.i item,.i loc,.i kind,.i q] (.tup [(S.setRow e (entRw now closed ((poolsR pools).set k.toNat (PoolD.row ⟨L2,d0,d1,d2⟩)) (intsR bal) (rollsR rolls) (intsR prices) (intsR down) (aheadR ahead))),Lay.av ⟨x,y,z⟩,.c (.bool wt),.i 0]):=by
 have:=H.bd;have:=hk.lo;have:=hk.hi;have:=hq.lo;have:=hq.hi
 obtain⟨ρ,hρ⟩:=rh [e,(S.ents.length:Int),item,(S.weights.length:Int),m,c,loc,kind,q]
 obtain rfl:=eqv hρ h_k [([2],2),([6],1)]
 subst hρ
 let ev:=evS b_Fetch_ok [e,(S.ents.length:Int),item,(S.weights.length:Int),m,c,loc,kind,q] [.int .i64 S.entities,.int .i64 S.periods,.int .i64 S.done,.int .i64 now,.bool closed,.int .i64 p0,.int .i64 p1,.int .i64 p2,.int .i64 x,.int .i64 y,.int .i64 z,.int .i64 d0,.int .i64 d1,.int .i64 d2,.bool wt] (gS S pools bal rolls prices down ahead ms cs [laysR L,laysR L2]) BndL.nil.c.c.c.c.c.c.c.c.c FctL.nil.c.c.c LenL.nil.c.c.c.c.c.c.c.c (.d (aE H.hx) (.d (aS H.hms) (.d (aS H.hcs) (.d (aI H.hm) (.d (aI H.hc) (.d (aP hp) .nil))))))
 exact CK.way _ ev [(sN (.q 8 0) (.o 2)),.v 0,.v 2,.v 6,.v 7,.v 8] (.tup [(sN (.seq 8 0 [([([0],1)],[.o 3,.o 4,(.seq 4 7 [([([2],2),([6],1)],[.q 3 16,.o 11,.o 12,.o 13])] []),.q 1 8,.q 11 9,.q 1 10,.q 1 11,.q 8 12])] []) (.o 2)),(.agg [.o 8,.o 9,.o 10]),.o 14,.i 0]) (by decide +kernel) (kc hO kn)
abbrev b_Turn_0:Bk:={ vars:=gV,facts:=gF,lens:=gL,ats:=gA++[(9,[([2],1)],[.o 5,.o 6,.o 7,.o 8,.o 9,.o 10,.o 11,.o 12,.o 13,.o 14,.o 15])],extV:=[(95,[.o 5,.o 16],(.tup [.o 27,.i 2]))] }
theorem Turn_0 {S:StD} {e item now m c:Int} {closed:Bool} {pools:List PoolD} {bal:List Int} {rolls:List (List Int)} {prices down:List Int} {ahead:List EntC} {ms cs:List Int} (H:Wx S e item now closed pools bal rolls prices down ahead ms cs m c) {a0 a1 a2 a3 a4 a5 a6 a7 a8 a9 a10 b0 b1 b2 b3 b4 b5 b6 b7 b8 b9 b10 z:Int} (hr:rolls[item.toNat]?=some [a0,a1,a2,a3,a4,a5,a6,a7,a8,a9,a10]) (k0:Ck 95 [.i a0,.i b0] (.tup [.i z,.i 2])) :
 Ck 68 [S.av,.i e,.i item,.agg (rowI [b0,b1,b2,b3,b4,b5,b6,b7,b8,b9,b10])] (.tup [S.av,.i 2]):=by
 have:=H.bd
 let ev:=evS b_Turn_0 [e,(S.ents.length:Int),item,(S.weights.length:Int),m,c] [.int .i64 S.entities,.int .i64 S.periods,.int .i64 S.done,.int .i64 now,.bool closed,.int .i64 a0,.int .i64 a1,.int .i64 a2,.int .i64 a3,.int .i64 a4,.int .i64 a5,.int .i64 a6,.int .i64 a7,.int .i64 a8,.int .i64 a9,.int .i64 a10,.int .i64 b0,.int .i64 b1,.int .i64 b2,.int .i64 b3,.int .i64 b4,.int .i64 b5,.int .i64 b6,.int .i64 b7,.int .i64 b8,.int .i64 b9,.int .i64 b10,.int .i64 z] (gS S pools bal rolls prices down ahead ms cs []) BndL.nil.c.c.c.c.c.c FctL.nil.c.c LenL.nil.c.c.c.c.c.c.c.c (.d (aE H.hx) (.d (aS H.hms) (.d (aS H.hcs) (.d (aI H.hm) (.d (aI H.hc) (.d (aR hr) .nil))))))
 exact CK.way _ ev [(sN (.q 8 0) (.o 2)),.v 0,.v 2,(.agg [.o 16,.o 17,.o 18,.o 19,.o 20,.o 21,.o 22,.o 23,.o 24,.o 25,.o 26])] (.tup [(sN (.q 8 0) (.o 2)),.i 2]) (by decide +kernel) (kc k0 kn)
abbrev b_Turn_1:Bk:={ vars:=gV,facts:=gF,lens:=gL,ats:=gA++[(9,[([2],1)],[.o 5,.o 6,.o 7,.o 8,.o 9,.o 10,.o 11,.o 12,.o 13,.o 14,.o 15])],extV:=[(95,[.o 5,.o 16],(.tup [.o 27,.i 0])),
 (95,[.o 6,.o 17],(.tup [.o 28,.i 2]))] }
theorem Turn_1 {S:StD} {e item now m c:Int} {closed:Bool} {pools:List PoolD} {bal:List Int} {rolls:List (List Int)} {prices down:List Int} {ahead:List EntC} {ms cs:List Int} (H:Wx S e item now closed pools bal rolls prices down ahead ms cs m c) {a0 a1 a2 a3 a4 a5 a6 a7 a8 a9 a10 b0 b1 b2 b3 b4 b5 b6 b7 b8 b9 b10 s0 z:Int} (hr:rolls[item.toNat]?=some [a0,a1,a2,a3,a4,a5,a6,a7,a8,a9,a10]) (k0:Ck 95 [.i a0,.i b0] (.tup [.i s0,.i 0])) (k1:Ck 95 [.i a1,.i b1] (.tup [.i z,.i 2])) :
 Ck 68 [S.av,.i e,.i item,.agg (rowI [b0,b1,b2,b3,b4,b5,b6,b7,b8,b9,b10])] (.tup [S.av,.i 2]):=by
 have:=H.bd
 let ev:=evS b_Turn_1 [e,(S.ents.length:Int),item,(S.weights.length:Int),m,c] [.int .i64 S.entities,.int .i64 S.periods,.int .i64 S.done,.int .i64 now,.bool closed,.int .i64 a0,.int .i64 a1,.int .i64 a2,.int .i64 a3,.int .i64 a4,.int .i64 a5,.int .i64 a6,.int .i64 a7,.int .i64 a8,.int .i64 a9,.int .i64 a10,.int .i64 b0,.int .i64 b1,.int .i64 b2,.int .i64 b3,.int .i64 b4,.int .i64 b5,.int .i64 b6,.int .i64 b7,.int .i64 b8,.int .i64 b9,.int .i64 b10,.int .i64 s0,.int .i64 z] (gS S pools bal rolls prices down ahead ms cs []) BndL.nil.c.c.c.c.c.c FctL.nil.c.c LenL.nil.c.c.c.c.c.c.c.c (.d (aE H.hx) (.d (aS H.hms) (.d (aS H.hcs) (.d (aI H.hm) (.d (aI H.hc) (.d (aR hr) .nil))))))
 exact CK.way _ ev [(sN (.q 8 0) (.o 2)),.v 0,.v 2,(.agg [.o 16,.o 17,.o 18,.o 19,.o 20,.o 21,.o 22,.o 23,.o 24,.o 25,.o 26])] (.tup [(sN (.q 8 0) (.o 2)),.i 2]) (by decide +kernel) (kc k0 (kc k1 kn))
abbrev b_Turn_2:Bk:={ vars:=gV,facts:=gF,lens:=gL,ats:=gA++[(9,[([2],1)],[.o 5,.o 6,.o 7,.o 8,.o 9,.o 10,.o 11,.o 12,.o 13,.o 14,.o 15])],extV:=[(95,[.o 5,.o 16],(.tup [.o 27,.i 0])),
 (95,[.o 6,.o 17],(.tup [.o 28,.i 0])),
 (95,[.o 7,.o 18],(.tup [.o 29,.i 2]))] }
theorem Turn_2 {S:StD} {e item now m c:Int} {closed:Bool} {pools:List PoolD} {bal:List Int} {rolls:List (List Int)} {prices down:List Int} {ahead:List EntC} {ms cs:List Int} (H:Wx S e item now closed pools bal rolls prices down ahead ms cs m c) {a0 a1 a2 a3 a4 a5 a6 a7 a8 a9 a10 b0 b1 b2 b3 b4 b5 b6 b7 b8 b9 b10 s0 s1 z:Int} (hr:rolls[item.toNat]?=some [a0,a1,a2,a3,a4,a5,a6,a7,a8,a9,a10]) (k0:Ck 95 [.i a0,.i b0] (.tup [.i s0,.i 0])) (k1:Ck 95 [.i a1,.i b1] (.tup [.i s1,.i 0])) (k2:Ck 95 [.i a2,.i b2] (.tup [.i z,.i 2])) :
 Ck 68 [S.av,.i e,.i item,.agg (rowI [b0,b1,b2,b3,b4,b5,b6,b7,b8,b9,b10])] (.tup [S.av,.i 2]):=by
 have:=H.bd
 let ev:=evS b_Turn_2 [e,(S.ents.length:Int),item,(S.weights.length:Int),m,c] [.int .i64 S.entities,.int .i64 S.periods,.int .i64 S.done,.int .i64 now,.bool closed,.int .i64 a0,.int .i64 a1,.int .i64 a2,.int .i64 a3,.int .i64 a4,.int .i64 a5,.int .i64 a6,.int .i64 a7,.int .i64 a8,.int .i64 a9,.int .i64 a10,.int .i64 b0,.int .i64 b1,.int .i64 b2,.int .i64 b3,.int .i64 b4,.int .i64 b5,.int .i64 b6,.int .i64 b7,.int .i64 b8,.int .i64 b9,.int .i64 b10,.int .i64 s0,.int .i64 s1,.int .i64 z] (gS S pools bal rolls prices down ahead ms cs []) BndL.nil.c.c.c.c.c.c FctL.nil.c.c LenL.nil.c.c.c.c.c.c.c.c (.d (aE H.hx) (.d (aS H.hms) (.d (aS H.hcs) (.d (aI H.hm) (.d (aI H.hc) (.d (aR hr) .nil))))))
 exact CK.way _ ev [(sN (.q 8 0) (.o 2)),.v 0,.v 2,(.agg [.o 16,.o 17,.o 18,.o 19,.o 20,.o 21,.o 22,.o 23,.o 24,.o 25,.o 26])] (.tup [(sN (.q 8 0) (.o 2)),.i 2]) (by decide +kernel) (kc k0 (kc k1 (kc k2 kn)))
abbrev b_Turn_3:Bk:={ vars:=gV,facts:=gF,lens:=gL,ats:=gA++[(9,[([2],1)],[.o 5,.o 6,.o 7,.o 8,.o 9,.o 10,.o 11,.o 12,.o 13,.o 14,.o 15])],extV:=[(95,[.o 5,.o 16],(.tup [.o 27,.i 0])),
 (95,[.o 6,.o 17],(.tup [.o 28,.i 0])),
 (95,[.o 7,.o 18],(.tup [.o 29,.i 0])),
 (95,[.o 8,.o 19],(.tup [.o 30,.i 2]))] }
theorem Turn_3 {S:StD} {e item now m c:Int} {closed:Bool} {pools:List PoolD} {bal:List Int} {rolls:List (List Int)} {prices down:List Int} {ahead:List EntC} {ms cs:List Int} (H:Wx S e item now closed pools bal rolls prices down ahead ms cs m c) {a0 a1 a2 a3 a4 a5 a6 a7 a8 a9 a10 b0 b1 b2 b3 b4 b5 b6 b7 b8 b9 b10 s0 s1 s2 z:Int} (hr:rolls[item.toNat]?=some [a0,a1,a2,a3,a4,a5,a6,a7,a8,a9,a10]) (k0:Ck 95 [.i a0,.i b0] (.tup [.i s0,.i 0])) (k1:Ck 95 [.i a1,.i b1] (.tup [.i s1,.i 0])) (k2:Ck 95 [.i a2,.i b2] (.tup [.i s2,.i 0])) (k3:Ck 95 [.i a3,.i b3] (.tup [.i z,.i 2])) :
 Ck 68 [S.av,.i e,.i item,.agg (rowI [b0,b1,b2,b3,b4,b5,b6,b7,b8,b9,b10])] (.tup [S.av,.i 2]):=by
 have:=H.bd
 let ev:=evS b_Turn_3 [e,(S.ents.length:Int),item,(S.weights.length:Int),m,c] [.int .i64 S.entities,.int .i64 S.periods,.int .i64 S.done,.int .i64 now,.bool closed,.int .i64 a0,.int .i64 a1,.int .i64 a2,.int .i64 a3,.int .i64 a4,.int .i64 a5,.int .i64 a6,.int .i64 a7,.int .i64 a8,.int .i64 a9,.int .i64 a10,.int .i64 b0,.int .i64 b1,.int .i64 b2,.int .i64 b3,.int .i64 b4,.int .i64 b5,.int .i64 b6,.int .i64 b7,.int .i64 b8,.int .i64 b9,.int .i64 b10,.int .i64 s0,.int .i64 s1,.int .i64 s2,.int .i64 z] (gS S pools bal rolls prices down ahead ms cs []) BndL.nil.c.c.c.c.c.c FctL.nil.c.c LenL.nil.c.c.c.c.c.c.c.c (.d (aE H.hx) (.d (aS H.hms) (.d (aS H.hcs) (.d (aI H.hm) (.d (aI H.hc) (.d (aR hr) .nil))))))
 exact CK.way _ ev [(sN (.q 8 0) (.o 2)),.v 0,.v 2,(.agg [.o 16,.o 17,.o 18,.o 19,.o 20,.o 21,.o 22,.o 23,.o 24,.o 25,.o 26])] (.tup [(sN (.q 8 0) (.o 2)),.i 2]) (by decide +kernel) (kc k0 (kc k1 (kc k2 (kc k3 kn))))
abbrev b_Turn_4:Bk:={ vars:=gV,facts:=gF,lens:=gL,ats:=gA++[(9,[([2],1)],[.o 5,.o 6,.o 7,.o 8,.o 9,.o 10,.o 11,.o 12,.o 13,.o 14,.o 15])],extV:=[(95,[.o 5,.o 16],(.tup [.o 27,.i 0])),
 (95,[.o 6,.o 17],(.tup [.o 28,.i 0])),
 (95,[.o 7,.o 18],(.tup [.o 29,.i 0])),
 (95,[.o 8,.o 19],(.tup [.o 30,.i 0])),
 (95,[.o 9,.o 20],(.tup [.o 31,.i 2]))] }
theorem Turn_4 {S:StD} {e item now m c:Int} {closed:Bool} {pools:List PoolD} {bal:List Int} {rolls:List (List Int)} {prices down:List Int} {ahead:List EntC} {ms cs:List Int} (H:Wx S e item now closed pools bal rolls prices down ahead ms cs m c) {a0 a1 a2 a3 a4 a5 a6 a7 a8 a9 a10 b0 b1 b2 b3 b4 b5 b6 b7 b8 b9 b10 s0 s1 s2 s3 z:Int} (hr:rolls[item.toNat]?=some [a0,a1,a2,a3,a4,a5,a6,a7,a8,a9,a10]) (k0:Ck 95 [.i a0,.i b0] (.tup [.i s0,.i 0])) (k1:Ck 95 [.i a1,.i b1] (.tup [.i s1,.i 0])) (k2:Ck 95 [.i a2,.i b2] (.tup [.i s2,.i 0])) (k3:Ck 95 [.i a3,.i b3] (.tup [.i s3,.i 0])) (k4:Ck 95 [.i a4,.i b4] (.tup [.i z,.i 2])) :
 Ck 68 [S.av,.i e,.i item,.agg (rowI [b0,b1,b2,b3,b4,b5,b6,b7,b8,b9,b10])] (.tup [S.av,.i 2]):=by
 have:=H.bd
 let ev:=evS b_Turn_4 [e,(S.ents.length:Int),item,(S.weights.length:Int),m,c] [.int .i64 S.entities,.int .i64 S.periods,.int .i64 S.done,.int .i64 now,.bool closed,.int .i64 a0,.int .i64 a1,.int .i64 a2,.int .i64 a3,.int .i64 a4,.int .i64 a5,.int .i64 a6,.int .i64 a7,.int .i64 a8,.int .i64 a9,.int .i64 a10,.int .i64 b0,.int .i64 b1,.int .i64 b2,.int .i64 b3,.int .i64 b4,.int .i64 b5,.int .i64 b6,.int .i64 b7,.int .i64 b8,.int .i64 b9,.int .i64 b10,.int .i64 s0,.int .i64 s1,.int .i64 s2,.int .i64 s3,.int .i64 z] (gS S pools bal rolls prices down ahead ms cs []) BndL.nil.c.c.c.c.c.c FctL.nil.c.c LenL.nil.c.c.c.c.c.c.c.c (.d (aE H.hx) (.d (aS H.hms) (.d (aS H.hcs) (.d (aI H.hm) (.d (aI H.hc) (.d (aR hr) .nil))))))
 exact CK.way _ ev [(sN (.q 8 0) (.o 2)),.v 0,.v 2,(.agg [.o 16,.o 17,.o 18,.o 19,.o 20,.o 21,.o 22,.o 23,.o 24,.o 25,.o 26])] (.tup [(sN (.q 8 0) (.o 2)),.i 2]) (by decide +kernel) (kc k0 (kc k1 (kc k2 (kc k3 (kc k4 kn)))))
abbrev b_Turn_5:Bk:={ vars:=gV,facts:=gF,lens:=gL,ats:=gA++[(9,[([2],1)],[.o 5,.o 6,.o 7,.o 8,.o 9,.o 10,.o 11,.o 12,.o 13,.o 14,.o 15])],extV:=[(95,[.o 5,.o 16],(.tup [.o 27,.i 0])),
 (95,[.o 6,.o 17],(.tup [.o 28,.i 0])),
 (95,[.o 7,.o 18],(.tup [.o 29,.i 0])),
 (95,[.o 8,.o 19],(.tup [.o 30,.i 0])),
 (95,[.o 9,.o 20],(.tup [.o 31,.i 0])),
 (95,[.o 10,.o 21],(.tup [.o 32,.i 2]))] }
theorem Turn_5 {S:StD} {e item now m c:Int} {closed:Bool} {pools:List PoolD} {bal:List Int} {rolls:List (List Int)} {prices down:List Int} {ahead:List EntC} {ms cs:List Int} (H:Wx S e item now closed pools bal rolls prices down ahead ms cs m c) {a0 a1 a2 a3 a4 a5 a6 a7 a8 a9 a10 b0 b1 b2 b3 b4 b5 b6 b7 b8 b9 b10 s0 s1 s2 s3 s4 z:Int} (hr:rolls[item.toNat]?=some [a0,a1,a2,a3,a4,a5,a6,a7,a8,a9,a10]) (k0:Ck 95 [.i a0,.i b0] (.tup [.i s0,.i 0])) (k1:Ck 95 [.i a1,.i b1] (.tup [.i s1,.i 0])) (k2:Ck 95 [.i a2,.i b2] (.tup [.i s2,.i 0])) (k3:Ck 95 [.i a3,.i b3] (.tup [.i s3,.i 0])) (k4:Ck 95 [.i a4,.i b4] (.tup [.i s4,.i 0])) (k5:Ck 95 [.i a5,.i b5] (.tup [.i z,.i 2])) :
 Ck 68 [S.av,.i e,.i item,.agg (rowI [b0,b1,b2,b3,b4,b5,b6,b7,b8,b9,b10])] (.tup [S.av,.i 2]):=by
 have:=H.bd
 let ev:=evS b_Turn_5 [e,(S.ents.length:Int),item,(S.weights.length:Int),m,c] [.int .i64 S.entities,.int .i64 S.periods,.int .i64 S.done,.int .i64 now,.bool closed,.int .i64 a0,.int .i64 a1,.int .i64 a2,.int .i64 a3,.int .i64 a4,.int .i64 a5,.int .i64 a6,.int .i64 a7,.int .i64 a8,.int .i64 a9,.int .i64 a10,.int .i64 b0,.int .i64 b1,.int .i64 b2,.int .i64 b3,.int .i64 b4,.int .i64 b5,.int .i64 b6,.int .i64 b7,.int .i64 b8,.int .i64 b9,.int .i64 b10,.int .i64 s0,.int .i64 s1,.int .i64 s2,.int .i64 s3,.int .i64 s4,.int .i64 z] (gS S pools bal rolls prices down ahead ms cs []) BndL.nil.c.c.c.c.c.c FctL.nil.c.c LenL.nil.c.c.c.c.c.c.c.c (.d (aE H.hx) (.d (aS H.hms) (.d (aS H.hcs) (.d (aI H.hm) (.d (aI H.hc) (.d (aR hr) .nil))))))
 exact CK.way _ ev [(sN (.q 8 0) (.o 2)),.v 0,.v 2,(.agg [.o 16,.o 17,.o 18,.o 19,.o 20,.o 21,.o 22,.o 23,.o 24,.o 25,.o 26])] (.tup [(sN (.q 8 0) (.o 2)),.i 2]) (by decide +kernel) (kc k0 (kc k1 (kc k2 (kc k3 (kc k4 (kc k5 kn))))))
abbrev b_Turn_6:Bk:={ vars:=gV,facts:=gF,lens:=gL,ats:=gA++[(9,[([2],1)],[.o 5,.o 6,.o 7,.o 8,.o 9,.o 10,.o 11,.o 12,.o 13,.o 14,.o 15])],extV:=[(95,[.o 5,.o 16],(.tup [.o 27,.i 0])),
 (95,[.o 6,.o 17],(.tup [.o 28,.i 0])),
 (95,[.o 7,.o 18],(.tup [.o 29,.i 0])),
 (95,[.o 8,.o 19],(.tup [.o 30,.i 0])),
 (95,[.o 9,.o 20],(.tup [.o 31,.i 0])),
 (95,[.o 10,.o 21],(.tup [.o 32,.i 0])),
 (95,[.o 11,.o 22],(.tup [.o 33,.i 2]))] }
theorem Turn_6 {S:StD} {e item now m c:Int} {closed:Bool} {pools:List PoolD} {bal:List Int} {rolls:List (List Int)} {prices down:List Int} {ahead:List EntC} {ms cs:List Int} (H:Wx S e item now closed pools bal rolls prices down ahead ms cs m c) {a0 a1 a2 a3 a4 a5 a6 a7 a8 a9 a10 b0 b1 b2 b3 b4 b5 b6 b7 b8 b9 b10 s0 s1 s2 s3 s4 s5 z:Int} (hr:rolls[item.toNat]?=some [a0,a1,a2,a3,a4,a5,a6,a7,a8,a9,a10]) (k0:Ck 95 [.i a0,.i b0] (.tup [.i s0,.i 0])) (k1:Ck 95 [.i a1,.i b1] (.tup [.i s1,.i 0])) (k2:Ck 95 [.i a2,.i b2] (.tup [.i s2,.i 0])) (k3:Ck 95 [.i a3,.i b3] (.tup [.i s3,.i 0])) (k4:Ck 95 [.i a4,.i b4] (.tup [.i s4,.i 0])) (k5:Ck 95 [.i a5,.i b5] (.tup [.i s5,.i 0])) (k6:Ck 95 [.i a6,.i b6] (.tup [.i z,.i 2])) :
 Ck 68 [S.av,.i e,.i item,.agg (rowI [b0,b1,b2,b3,b4,b5,b6,b7,b8,b9,b10])] (.tup [S.av,.i 2]):=by
 have:=H.bd
 let ev:=evS b_Turn_6 [e,(S.ents.length:Int),item,(S.weights.length:Int),m,c] [.int .i64 S.entities,.int .i64 S.periods,.int .i64 S.done,.int .i64 now,.bool closed,.int .i64 a0,.int .i64 a1,.int .i64 a2,.int .i64 a3,.int .i64 a4,.int .i64 a5,.int .i64 a6,.int .i64 a7,.int .i64 a8,.int .i64 a9,.int .i64 a10,.int .i64 b0,.int .i64 b1,.int .i64 b2,.int .i64 b3,.int .i64 b4,.int .i64 b5,.int .i64 b6,.int .i64 b7,.int .i64 b8,.int .i64 b9,.int .i64 b10,.int .i64 s0,.int .i64 s1,.int .i64 s2,.int .i64 s3,.int .i64 s4,.int .i64 s5,.int .i64 z] (gS S pools bal rolls prices down ahead ms cs []) BndL.nil.c.c.c.c.c.c FctL.nil.c.c LenL.nil.c.c.c.c.c.c.c.c (.d (aE H.hx) (.d (aS H.hms) (.d (aS H.hcs) (.d (aI H.hm) (.d (aI H.hc) (.d (aR hr) .nil))))))
 exact CK.way _ ev [(sN (.q 8 0) (.o 2)),.v 0,.v 2,(.agg [.o 16,.o 17,.o 18,.o 19,.o 20,.o 21,.o 22,.o 23,.o 24,.o 25,.o 26])] (.tup [(sN (.q 8 0) (.o 2)),.i 2]) (by decide +kernel) (kc k0 (kc k1 (kc k2 (kc k3 (kc k4 (kc k5 (kc k6 kn)))))))
abbrev b_Turn_7:Bk:={ vars:=gV,facts:=gF,lens:=gL,ats:=gA++[(9,[([2],1)],[.o 5,.o 6,.o 7,.o 8,.o 9,.o 10,.o 11,.o 12,.o 13,.o 14,.o 15])],extV:=[(95,[.o 5,.o 16],(.tup [.o 27,.i 0])),
 (95,[.o 6,.o 17],(.tup [.o 28,.i 0])),
 (95,[.o 7,.o 18],(.tup [.o 29,.i 0])),
 (95,[.o 8,.o 19],(.tup [.o 30,.i 0])),
 (95,[.o 9,.o 20],(.tup [.o 31,.i 0])),
 (95,[.o 10,.o 21],(.tup [.o 32,.i 0])),
 (95,[.o 11,.o 22],(.tup [.o 33,.i 0])),
 (95,[.o 12,.o 23],(.tup [.o 34,.i 2]))] }
theorem Turn_7 {S:StD} {e item now m c:Int} {closed:Bool} {pools:List PoolD} {bal:List Int} {rolls:List (List Int)} {prices down:List Int} {ahead:List EntC} {ms cs:List Int} (H:Wx S e item now closed pools bal rolls prices down ahead ms cs m c) {a0 a1 a2 a3 a4 a5 a6 a7 a8 a9 a10 b0 b1 b2 b3 b4 b5 b6 b7 b8 b9 b10 s0 s1 s2 s3 s4 s5 s6 z:Int} (hr:rolls[item.toNat]?=some [a0,a1,a2,a3,a4,a5,a6,a7,a8,a9,a10]) (k0:Ck 95 [.i a0,.i b0] (.tup [.i s0,.i 0])) (k1:Ck 95 [.i a1,.i b1] (.tup [.i s1,.i 0])) (k2:Ck 95 [.i a2,.i b2] (.tup [.i s2,.i 0])) (k3:Ck 95 [.i a3,.i b3] (.tup [.i s3,.i 0])) (k4:Ck 95 [.i a4,.i b4] (.tup [.i s4,.i 0])) (k5:Ck 95 [.i a5,.i b5] (.tup [.i s5,.i 0])) (k6:Ck 95 [.i a6,.i b6] (.tup [.i s6,.i 0])) (k7:Ck 95 [.i a7,.i b7] (.tup [.i z,.i 2])) :
 Ck 68 [S.av,.i e,.i item,.agg (rowI [b0,b1,b2,b3,b4,b5,b6,b7,b8,b9,b10])] (.tup [S.av,.i 2]):=by
 have:=H.bd
 let ev:=evS b_Turn_7 [e,(S.ents.length:Int),item,(S.weights.length:Int),m,c] [.int .i64 S.entities,.int .i64 S.periods,.int .i64 S.done,.int .i64 now,.bool closed,.int .i64 a0,.int .i64 a1,.int .i64 a2,.int .i64 a3,.int .i64 a4,.int .i64 a5,.int .i64 a6,.int .i64 a7,.int .i64 a8,.int .i64 a9,.int .i64 a10,.int .i64 b0,.int .i64 b1,.int .i64 b2,.int .i64 b3,.int .i64 b4,.int .i64 b5,.int .i64 b6,.int .i64 b7,.int .i64 b8,.int .i64 b9,.int .i64 b10,.int .i64 s0,.int .i64 s1,.int .i64 s2,.int .i64 s3,.int .i64 s4,.int .i64 s5,.int .i64 s6,.int .i64 z] (gS S pools bal rolls prices down ahead ms cs []) BndL.nil.c.c.c.c.c.c FctL.nil.c.c LenL.nil.c.c.c.c.c.c.c.c (.d (aE H.hx) (.d (aS H.hms) (.d (aS H.hcs) (.d (aI H.hm) (.d (aI H.hc) (.d (aR hr) .nil))))))
 exact CK.way _ ev [(sN (.q 8 0) (.o 2)),.v 0,.v 2,(.agg [.o 16,.o 17,.o 18,.o 19,.o 20,.o 21,.o 22,.o 23,.o 24,.o 25,.o 26])] (.tup [(sN (.q 8 0) (.o 2)),.i 2]) (by decide +kernel) (kc k0 (kc k1 (kc k2 (kc k3 (kc k4 (kc k5 (kc k6 (kc k7 kn))))))))
abbrev b_Turn_8:Bk:={ vars:=gV,facts:=gF,lens:=gL,ats:=gA++[(9,[([2],1)],[.o 5,.o 6,.o 7,.o 8,.o 9,.o 10,.o 11,.o 12,.o 13,.o 14,.o 15])],extV:=[(95,[.o 5,.o 16],(.tup [.o 27,.i 0])),
 (95,[.o 6,.o 17],(.tup [.o 28,.i 0])),
 (95,[.o 7,.o 18],(.tup [.o 29,.i 0])),
 (95,[.o 8,.o 19],(.tup [.o 30,.i 0])),
 (95,[.o 9,.o 20],(.tup [.o 31,.i 0])),
 (95,[.o 10,.o 21],(.tup [.o 32,.i 0])),
 (95,[.o 11,.o 22],(.tup [.o 33,.i 0])),
 (95,[.o 12,.o 23],(.tup [.o 34,.i 0])),
 (95,[.o 13,.o 24],(.tup [.o 35,.i 2]))] }
theorem Turn_8 {S:StD} {e item now m c:Int} {closed:Bool} {pools:List PoolD} {bal:List Int} {rolls:List (List Int)} {prices down:List Int} {ahead:List EntC} {ms cs:List Int} (H:Wx S e item now closed pools bal rolls prices down ahead ms cs m c) {a0 a1 a2 a3 a4 a5 a6 a7 a8 a9 a10 b0 b1 b2 b3 b4 b5 b6 b7 b8 b9 b10 s0 s1 s2 s3 s4 s5 s6 s7 z:Int} (hr:rolls[item.toNat]?=some [a0,a1,a2,a3,a4,a5,a6,a7,a8,a9,a10]) (k0:Ck 95 [.i a0,.i b0] (.tup [.i s0,.i 0])) (k1:Ck 95 [.i a1,.i b1] (.tup [.i s1,.i 0])) (k2:Ck 95 [.i a2,.i b2] (.tup [.i s2,.i 0])) (k3:Ck 95 [.i a3,.i b3] (.tup [.i s3,.i 0])) (k4:Ck 95 [.i a4,.i b4] (.tup [.i s4,.i 0])) (k5:Ck 95 [.i a5,.i b5] (.tup [.i s5,.i 0])) (k6:Ck 95 [.i a6,.i b6] (.tup [.i s6,.i 0])) (k7:Ck 95 [.i a7,.i b7] (.tup [.i s7,.i 0])) (k8:Ck 95 [.i a8,.i b8] (.tup [.i z,.i 2])) :
 Ck 68 [S.av,.i e,.i item,.agg (rowI [b0,b1,b2,b3,b4,b5,b6,b7,b8,b9,b10])] (.tup [S.av,.i 2]):=by
 have:=H.bd
 let ev:=evS b_Turn_8 [e,(S.ents.length:Int),item,(S.weights.length:Int),m,c] [.int .i64 S.entities,.int .i64 S.periods,.int .i64 S.done,.int .i64 now,.bool closed,.int .i64 a0,.int .i64 a1,.int .i64 a2,.int .i64 a3,.int .i64 a4,.int .i64 a5,.int .i64 a6,.int .i64 a7,.int .i64 a8,.int .i64 a9,.int .i64 a10,.int .i64 b0,.int .i64 b1,.int .i64 b2,.int .i64 b3,.int .i64 b4,.int .i64 b5,.int .i64 b6,.int .i64 b7,.int .i64 b8,.int .i64 b9,.int .i64 b10,.int .i64 s0,.int .i64 s1,.int .i64 s2,.int .i64 s3,.int .i64 s4,.int .i64 s5,.int .i64 s6,.int .i64 s7,.int .i64 z] (gS S pools bal rolls prices down ahead ms cs []) BndL.nil.c.c.c.c.c.c FctL.nil.c.c LenL.nil.c.c.c.c.c.c.c.c (.d (aE H.hx) (.d (aS H.hms) (.d (aS H.hcs) (.d (aI H.hm) (.d (aI H.hc) (.d (aR hr) .nil))))))
 exact CK.way _ ev [(sN (.q 8 0) (.o 2)),.v 0,.v 2,(.agg [.o 16,.o 17,.o 18,.o 19,.o 20,.o 21,.o 22,.o 23,.o 24,.o 25,.o 26])] (.tup [(sN (.q 8 0) (.o 2)),.i 2]) (by decide +kernel) (kc k0 (kc k1 (kc k2 (kc k3 (kc k4 (kc k5 (kc k6 (kc k7 (kc k8 kn)))))))))
abbrev b_Turn_9:Bk:={ vars:=gV,facts:=gF,lens:=gL,ats:=gA++[(9,[([2],1)],[.o 5,.o 6,.o 7,.o 8,.o 9,.o 10,.o 11,.o 12,.o 13,.o 14,.o 15])],extV:=[(95,[.o 5,.o 16],(.tup [.o 27,.i 0])),
 (95,[.o 6,.o 17],(.tup [.o 28,.i 0])),
 (95,[.o 7,.o 18],(.tup [.o 29,.i 0])),
 (95,[.o 8,.o 19],(.tup [.o 30,.i 0])),
 (95,[.o 9,.o 20],(.tup [.o 31,.i 0])),
 (95,[.o 10,.o 21],(.tup [.o 32,.i 0])),
 (95,[.o 11,.o 22],(.tup [.o 33,.i 0])),
 (95,[.o 12,.o 23],(.tup [.o 34,.i 0])),
 (95,[.o 13,.o 24],(.tup [.o 35,.i 0])),
 (95,[.o 14,.o 25],(.tup [.o 36,.i 2]))] }
theorem Turn_9 {S:StD} {e item now m c:Int} {closed:Bool} {pools:List PoolD} {bal:List Int} {rolls:List (List Int)} {prices down:List Int} {ahead:List EntC} {ms cs:List Int} (H:Wx S e item now closed pools bal rolls prices down ahead ms cs m c) {a0 a1 a2 a3 a4 a5 a6 a7 a8 a9 a10 b0 b1 b2 b3 b4 b5 b6 b7 b8 b9 b10 s0 s1 s2 s3 s4 s5 s6 s7 s8 z:Int} (hr:rolls[item.toNat]?=some [a0,a1,a2,a3,a4,a5,a6,a7,a8,a9,a10]) (k0:Ck 95 [.i a0,.i b0] (.tup [.i s0,.i 0])) (k1:Ck 95 [.i a1,.i b1] (.tup [.i s1,.i 0])) (k2:Ck 95 [.i a2,.i b2] (.tup [.i s2,.i 0])) (k3:Ck 95 [.i a3,.i b3] (.tup [.i s3,.i 0])) (k4:Ck 95 [.i a4,.i b4] (.tup [.i s4,.i 0])) (k5:Ck 95 [.i a5,.i b5] (.tup [.i s5,.i 0])) (k6:Ck 95 [.i a6,.i b6] (.tup [.i s6,.i 0])) (k7:Ck 95 [.i a7,.i b7] (.tup [.i s7,.i 0])) (k8:Ck 95 [.i a8,.i b8] (.tup [.i s8,.i 0])) (k9:Ck 95 [.i a9,.i b9] (.tup [.i z,.i 2])) :
 Ck 68 [S.av,.i e,.i item,.agg (rowI [b0,b1,b2,b3,b4,b5,b6,b7,b8,b9,b10])] (.tup [S.av,.i 2]):=by
 have:=H.bd
 let ev:=evS b_Turn_9 [e,(S.ents.length:Int),item,(S.weights.length:Int),m,c] [.int .i64 S.entities,.int .i64 S.periods,.int .i64 S.done,.int .i64 now,.bool closed,.int .i64 a0,.int .i64 a1,.int .i64 a2,.int .i64 a3,.int .i64 a4,.int .i64 a5,.int .i64 a6,.int .i64 a7,.int .i64 a8,.int .i64 a9,.int .i64 a10,.int .i64 b0,.int .i64 b1,.int .i64 b2,.int .i64 b3,.int .i64 b4,.int .i64 b5,.int .i64 b6,.int .i64 b7,.int .i64 b8,.int .i64 b9,.int .i64 b10,.int .i64 s0,.int .i64 s1,.int .i64 s2,.int .i64 s3,.int .i64 s4,.int .i64 s5,.int .i64 s6,.int .i64 s7,.int .i64 s8,.int .i64 z] (gS S pools bal rolls prices down ahead ms cs []) BndL.nil.c.c.c.c.c.c FctL.nil.c.c LenL.nil.c.c.c.c.c.c.c.c (.d (aE H.hx) (.d (aS H.hms) (.d (aS H.hcs) (.d (aI H.hm) (.d (aI H.hc) (.d (aR hr) .nil))))))
 exact CK.way _ ev [(sN (.q 8 0) (.o 2)),.v 0,.v 2,(.agg [.o 16,.o 17,.o 18,.o 19,.o 20,.o 21,.o 22,.o 23,.o 24,.o 25,.o 26])] (.tup [(sN (.q 8 0) (.o 2)),.i 2]) (by decide +kernel) (kc k0 (kc k1 (kc k2 (kc k3 (kc k4 (kc k5 (kc k6 (kc k7 (kc k8 (kc k9 kn))))))))))
abbrev b_Turn_10:Bk:={ vars:=gV,facts:=gF,lens:=gL,ats:=gA++[(9,[([2],1)],[.o 5,.o 6,.o 7,.o 8,.o 9,.o 10,.o 11,.o 12,.o 13,.o 14,.o 15])],extV:=[(95,[.o 5,.o 16],(.tup [.o 27,.i 0])),
 (95,[.o 6,.o 17],(.tup [.o 28,.i 0])),
 (95,[.o 7,.o 18],(.tup [.o 29,.i 0])),
 (95,[.o 8,.o 19],(.tup [.o 30,.i 0])),
 (95,[.o 9,.o 20],(.tup [.o 31,.i 0])),
 (95,[.o 10,.o 21],(.tup [.o 32,.i 0])),
 (95,[.o 11,.o 22],(.tup [.o 33,.i 0])),
 (95,[.o 12,.o 23],(.tup [.o 34,.i 0])),
 (95,[.o 13,.o 24],(.tup [.o 35,.i 0])),
 (95,[.o 14,.o 25],(.tup [.o 36,.i 0])),
 (95,[.o 15,.o 26],(.tup [.o 37,.i 2]))] }
theorem Turn_10 {S:StD} {e item now m c:Int} {closed:Bool} {pools:List PoolD} {bal:List Int} {rolls:List (List Int)} {prices down:List Int} {ahead:List EntC} {ms cs:List Int} (H:Wx S e item now closed pools bal rolls prices down ahead ms cs m c) {a0 a1 a2 a3 a4 a5 a6 a7 a8 a9 a10 b0 b1 b2 b3 b4 b5 b6 b7 b8 b9 b10 s0 s1 s2 s3 s4 s5 s6 s7 s8 s9 z:Int} (hr:rolls[item.toNat]?=some [a0,a1,a2,a3,a4,a5,a6,a7,a8,a9,a10]) (k0:Ck 95 [.i a0,.i b0] (.tup [.i s0,.i 0])) (k1:Ck 95 [.i a1,.i b1] (.tup [.i s1,.i 0])) (k2:Ck 95 [.i a2,.i b2] (.tup [.i s2,.i 0])) (k3:Ck 95 [.i a3,.i b3] (.tup [.i s3,.i 0])) (k4:Ck 95 [.i a4,.i b4] (.tup [.i s4,.i 0])) (k5:Ck 95 [.i a5,.i b5] (.tup [.i s5,.i 0])) (k6:Ck 95 [.i a6,.i b6] (.tup [.i s6,.i 0])) (k7:Ck 95 [.i a7,.i b7] (.tup [.i s7,.i 0])) (k8:Ck 95 [.i a8,.i b8] (.tup [.i s8,.i 0])) (k9:Ck 95 [.i a9,.i b9] (.tup [.i s9,.i 0])) (k10:Ck 95 [.i a10,.i b10] (.tup [.i z,.i 2])) :
 Ck 68 [S.av,.i e,.i item,.agg (rowI [b0,b1,b2,b3,b4,b5,b6,b7,b8,b9,b10])] (.tup [S.av,.i 2]):=by
 have:=H.bd
 let ev:=evS b_Turn_10 [e,(S.ents.length:Int),item,(S.weights.length:Int),m,c] [.int .i64 S.entities,.int .i64 S.periods,.int .i64 S.done,.int .i64 now,.bool closed,.int .i64 a0,.int .i64 a1,.int .i64 a2,.int .i64 a3,.int .i64 a4,.int .i64 a5,.int .i64 a6,.int .i64 a7,.int .i64 a8,.int .i64 a9,.int .i64 a10,.int .i64 b0,.int .i64 b1,.int .i64 b2,.int .i64 b3,.int .i64 b4,.int .i64 b5,.int .i64 b6,.int .i64 b7,.int .i64 b8,.int .i64 b9,.int .i64 b10,.int .i64 s0,.int .i64 s1,.int .i64 s2,.int .i64 s3,.int .i64 s4,.int .i64 s5,.int .i64 s6,.int .i64 s7,.int .i64 s8,.int .i64 s9,.int .i64 z] (gS S pools bal rolls prices down ahead ms cs []) BndL.nil.c.c.c.c.c.c FctL.nil.c.c LenL.nil.c.c.c.c.c.c.c.c (.d (aE H.hx) (.d (aS H.hms) (.d (aS H.hcs) (.d (aI H.hm) (.d (aI H.hc) (.d (aR hr) .nil))))))
 exact CK.way _ ev [(sN (.q 8 0) (.o 2)),.v 0,.v 2,(.agg [.o 16,.o 17,.o 18,.o 19,.o 20,.o 21,.o 22,.o 23,.o 24,.o 25,.o 26])] (.tup [(sN (.q 8 0) (.o 2)),.i 2]) (by decide +kernel) (kc k0 (kc k1 (kc k2 (kc k3 (kc k4 (kc k5 (kc k6 (kc k7 (kc k8 (kc k9 (kc k10 kn)))))))))))
abbrev b_Turn_11:Bk:={ vars:=gV,facts:=gF,lens:=gL,ats:=gA++[(9,[([2],1)],[.o 5,.o 6,.o 7,.o 8,.o 9,.o 10,.o 11,.o 12,.o 13,.o 14,.o 15])],extV:=[(95,[.o 5,.o 16],(.tup [.o 27,.i 0])),
 (95,[.o 6,.o 17],(.tup [.o 28,.i 0])),
 (95,[.o 7,.o 18],(.tup [.o 29,.i 0])),
 (95,[.o 8,.o 19],(.tup [.o 30,.i 0])),
 (95,[.o 9,.o 20],(.tup [.o 31,.i 0])),
 (95,[.o 10,.o 21],(.tup [.o 32,.i 0])),
 (95,[.o 11,.o 22],(.tup [.o 33,.i 0])),
 (95,[.o 12,.o 23],(.tup [.o 34,.i 0])),
 (95,[.o 13,.o 24],(.tup [.o 35,.i 0])),
 (95,[.o 14,.o 25],(.tup [.o 36,.i 0])),
 (95,[.o 15,.o 26],(.tup [.o 37,.i 0]))] }
theorem Turn_11 {S:StD} {e item now m c:Int} {closed:Bool} {pools:List PoolD} {bal:List Int} {rolls:List (List Int)} {prices down:List Int} {ahead:List EntC} {ms cs:List Int} (H:Wx S e item now closed pools bal rolls prices down ahead ms cs m c) {a0 a1 a2 a3 a4 a5 a6 a7 a8 a9 a10 b0 b1 b2 b3 b4 b5 b6 b7 b8 b9 b10 s0 s1 s2 s3 s4 s5 s6 s7 s8 s9 s10:Int} (hr:rolls[item.toNat]?=some [a0,a1,a2,a3,a4,a5,a6,a7,a8,a9,a10]) (k0:Ck 95 [.i a0,.i b0] (.tup [.i s0,.i 0])) (k1:Ck 95 [.i a1,.i b1] (.tup [.i s1,.i 0])) (k2:Ck 95 [.i a2,.i b2] (.tup [.i s2,.i 0])) (k3:Ck 95 [.i a3,.i b3] (.tup [.i s3,.i 0])) (k4:Ck 95 [.i a4,.i b4] (.tup [.i s4,.i 0])) (k5:Ck 95 [.i a5,.i b5] (.tup [.i s5,.i 0])) (k6:Ck 95 [.i a6,.i b6] (.tup [.i s6,.i 0])) (k7:Ck 95 [.i a7,.i b7] (.tup [.i s7,.i 0])) (k8:Ck 95 [.i a8,.i b8] (.tup [.i s8,.i 0])) (k9:Ck 95 [.i a9,.i b9] (.tup [.i s9,.i 0])) (k10:Ck 95 [.i a10,.i b10] (.tup [.i s10,.i 0])) :
 Ck 68 [S.av,.i e,.i item,.agg (rowI [b0,b1,b2,b3,b4,b5,b6,b7,b8,b9,b10])] (.tup [(S.setRow e (entRw now closed (poolsR pools) (intsR bal) ((rollsR rolls).set item.toNat (rowI [s0,s1,s2,s3,s4,s5,s6,s7,s8,s9,s10])) (intsR prices) (intsR down) (aheadR ahead))),.i 0]):=by
 have:=H.bd
 let ev:=evS b_Turn_11 [e,(S.ents.length:Int),item,(S.weights.length:Int),m,c] [.int .i64 S.entities,.int .i64 S.periods,.int .i64 S.done,.int .i64 now,.bool closed,.int .i64 a0,.int .i64 a1,.int .i64 a2,.int .i64 a3,.int .i64 a4,.int .i64 a5,.int .i64 a6,.int .i64 a7,.int .i64 a8,.int .i64 a9,.int .i64 a10,.int .i64 b0,.int .i64 b1,.int .i64 b2,.int .i64 b3,.int .i64 b4,.int .i64 b5,.int .i64 b6,.int .i64 b7,.int .i64 b8,.int .i64 b9,.int .i64 b10,.int .i64 s0,.int .i64 s1,.int .i64 s2,.int .i64 s3,.int .i64 s4,.int .i64 s5,.int .i64 s6,.int .i64 s7,.int .i64 s8,.int .i64 s9,.int .i64 s10] (gS S pools bal rolls prices down ahead ms cs []) BndL.nil.c.c.c.c.c.c FctL.nil.c.c LenL.nil.c.c.c.c.c.c.c.c (.d (aE H.hx) (.d (aS H.hms) (.d (aS H.hcs) (.d (aI H.hm) (.d (aI H.hc) (.d (aR hr) .nil))))))
 exact CK.way _ ev [(sN (.q 8 0) (.o 2)),.v 0,.v 2,(.agg [.o 16,.o 17,.o 18,.o 19,.o 20,.o 21,.o 22,.o 23,.o 24,.o 25,.o 26])] (.tup [(sN (.seq 8 0 [([([0],1)],[.o 3,.o 4,.q 4 7,.q 1 8,(.seq 11 9 [([([2],1)],[.o 27,.o 28,.o 29,.o 30,.o 31,.o 32,.o 33,.o 34,.o 35,.o 36,.o 37])] []),.q 1 10,.q 1 11,.q 8 12])] []) (.o 2)),.i 0]) (by decide +kernel) (kc k0 (kc k1 (kc k2 (kc k3 (kc k4 (kc k5 (kc k6 (kc k7 (kc k8 (kc k9 (kc k10 kn)))))))))))
end Go.Proofs.YtnalblnmplnhmaaGreat
