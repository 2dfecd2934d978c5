/-
 pool.In, Out, Total, Free, pavg.Back: their ways, whatever the method. (Printed by wip/mkpath.py out of wip/paths/gpool.py.)
-/
import Derived.Test.YtjccjmmbebiegaaZ
set_option linter.unusedVariables false
set_option linter.unusedSimpArgs false
namespace Go.Proofs.Ytjccjmmbebiegaa
open Go.RowKit Mc
set_option maxRecDepth 1000000
abbrev b_PIn_1err:Bk:={ vars:=[(0,30),(0,30),(1,20)],lens:=[(0,[([0],1)]),(1,[([1],1)])],extV:=[(69,[.q 3 0,(.agg [.o 3,.o 4,.o 6])],(.tup [.q 3 1,.v 2]))] }
theorem PIn_1err {L:List Lay} {p0 p1 p2:Int} (hl:L.length≤30) {x y c z:Int} {L2:List Lay} (hl2:L2.length≤30) {f:Int} (b_f:1≤f∧f≤20) (h0:Ck 69 [.lit 3 (laysR L),Lay.av ⟨x,y,z⟩] (.tup [.lit 3 (laysR L2),.i f])) :
 Ck 16 [.i 1,.i c,PoolD.av ⟨L,p0,p1,p2⟩,Lay.av ⟨x,y,z⟩] (.tup [PoolD.av ⟨L,p0,p1,p2⟩,.i 0,.i f]):=by
 let ev:=evS b_PIn_1err [(L.length:Int),(L2.length:Int),f] [.int .i64 p0,.int .i64 p1,.int .i64 p2,.int .i64 x,.int .i64 y,.int .i64 c,.int .i64 z] [laysR L,laysR L2] BndL.nil.c.c.c FctL.nil LenL.nil.c.c (.nil)
 exact CK.way _ ev [.i 1,.o 5,(.agg [.q 3 0,.o 0,.o 1,.o 2]),(.agg [.o 3,.o 4,.o 6])] (.tup [(.agg [.q 3 0,.o 0,.o 1,.o 2]),.i 0,.v 2]) (by decide +kernel) (kc h0 kn)
abbrev b_PIn_1ok:Bk:={ vars:=[(0,30),(0,30)],lens:=[(0,[([0],1)]),(1,[([1],1)])],extV:=[(69,[.q 3 0,(.agg [.o 3,.o 4,.o 6])],(.tup [.q 3 1,.i 0]))] }
theorem PIn_1ok {L:List Lay} {p0 p1 p2:Int} (hl:L.length≤30) {x y c z:Int} {L2:List Lay} (hl2:L2.length≤30) (h0:Ck 69 [.lit 3 (laysR L),Lay.av ⟨x,y,z⟩] (.tup [.lit 3 (laysR L2),.i 0])) :
 Ck 16 [.i 1,.i c,PoolD.av ⟨L,p0,p1,p2⟩,Lay.av ⟨x,y,z⟩] (.tup [PoolD.av ⟨L2,p0,p1,p2⟩,.i 0,.i 0]):=by
 let ev:=evS b_PIn_1ok [(L.length:Int),(L2.length:Int)] [.int .i64 p0,.int .i64 p1,.int .i64 p2,.int .i64 x,.int .i64 y,.int .i64 c,.int .i64 z] [laysR L,laysR L2] BndL.nil.c.c FctL.nil LenL.nil.c.c (.nil)
 exact CK.way _ ev [.i 1,.o 5,(.agg [.q 3 0,.o 0,.o 1,.o 2]),(.agg [.o 3,.o 4,.o 6])] (.tup [(.agg [.q 3 1,.o 0,.o 1,.o 2]),.i 0,.i 0]) (by decide +kernel) (kc h0 kn)
abbrev b_PIn_2err:Bk:={ vars:=[(0,30),(0,30),(1,20)],lens:=[(0,[([0],1)]),(1,[([1],1)])],extV:=[(69,[.q 3 0,(.agg [.o 3,.o 4,.o 6])],(.tup [.q 3 1,.v 2]))] }
theorem PIn_2err {L:List Lay} {p0 p1 p2:Int} (hl:L.length≤30) {x y c z:Int} {L2:List Lay} (hl2:L2.length≤30) {f:Int} (b_f:1≤f∧f≤20) (h0:Ck 69 [.lit 3 (laysR L),Lay.av ⟨x,y,z⟩] (.tup [.lit 3 (laysR L2),.i f])) :
 Ck 16 [.i 2,.i c,PoolD.av ⟨L,p0,p1,p2⟩,Lay.av ⟨x,y,z⟩] (.tup [PoolD.av ⟨L,p0,p1,p2⟩,.i 0,.i f]):=by
 let ev:=evS b_PIn_2err [(L.length:Int),(L2.length:Int),f] [.int .i64 p0,.int .i64 p1,.int .i64 p2,.int .i64 x,.int .i64 y,.int .i64 c,.int .i64 z] [laysR L,laysR L2] BndL.nil.c.c.c FctL.nil LenL.nil.c.c (.nil)
 exact CK.way _ ev [.i 2,.o 5,(.agg [.q 3 0,.o 0,.o 1,.o 2]),(.agg [.o 3,.o 4,.o 6])] (.tup [(.agg [.q 3 0,.o 0,.o 1,.o 2]),.i 0,.v 2]) (by decide +kernel) (kc h0 kn)
abbrev b_PIn_2ok:Bk:={ vars:=[(0,30),(0,30)],lens:=[(0,[([0],1)]),(1,[([1],1)])],extV:=[(69,[.q 3 0,(.agg [.o 3,.o 4,.o 6])],(.tup [.q 3 1,.i 0])),
 (54,[.q 3 1],(.tup [(.agg [.o 7,.o 8,.o 9]),.i 0]))] }
theorem PIn_2ok {L:List Lay} {p0 p1 p2:Int} (hl:L.length≤30) {x y c z:Int} {L2:List Lay} (hl2:L2.length≤30) {t0 t1 t2:Int} (h0:Ck 69 [.lit 3 (laysR L),Lay.av ⟨x,y,z⟩] (.tup [.lit 3 (laysR L2),.i 0])) (h1:Ck 54 [.lit 3 (laysR L2)] (.tup [Lay.av ⟨t0,t1,t2⟩,.i 0])) :
 Ck 16 [.i 2,.i c,PoolD.av ⟨L,p0,p1,p2⟩,Lay.av ⟨x,y,z⟩] (.tup [PoolD.av ⟨[⟨t0,t1,t2⟩],p0,p1,p2⟩,.i 0,.i 0]):=by
 let ev:=evS b_PIn_2ok [(L.length:Int),(L2.length:Int)] [.int .i64 p0,.int .i64 p1,.int .i64 p2,.int .i64 x,.int .i64 y,.int .i64 c,.int .i64 z,.int .i64 t0,.int .i64 t1,.int .i64 t2] [laysR L,laysR L2] BndL.nil.c.c FctL.nil LenL.nil.c.c (.nil)
 exact CK.way _ ev [.i 2,.o 5,(.agg [.q 3 0,.o 0,.o 1,.o 2]),(.agg [.o 3,.o 4,.o 6])] (.tup [(.agg [(.lit 3 [[.o 7,.o 8,.o 9]]),.o 0,.o 1,.o 2]),.i 0,.i 0]) (by decide +kernel) (kc h0 (kc h1 kn))
abbrev b_PIn_3err:Bk:={ vars:=[(0,30),(0,30),(1,20)],lens:=[(0,[([0],1)]),(1,[([1],1)])],extV:=[(69,[.q 3 0,(.agg [.o 3,.o 4,.o 6])],(.tup [.q 3 1,.v 2]))] }
theorem PIn_3err {L:List Lay} {p0 p1 p2:Int} (hl:L.length≤30) {x y c z:Int} {L2:List Lay} (hl2:L2.length≤30) {f:Int} (b_f:1≤f∧f≤20) (h0:Ck 69 [.lit 3 (laysR L),Lay.av ⟨x,y,z⟩] (.tup [.lit 3 (laysR L2),.i f])) :
 Ck 16 [.i 3,.i c,PoolD.av ⟨L,p0,p1,p2⟩,Lay.av ⟨x,y,z⟩] (.tup [PoolD.av ⟨L,p0,p1,p2⟩,.i 0,.i f]):=by
 let ev:=evS b_PIn_3err [(L.length:Int),(L2.length:Int),f] [.int .i64 p0,.int .i64 p1,.int .i64 p2,.int .i64 x,.int .i64 y,.int .i64 c,.int .i64 z] [laysR L,laysR L2] BndL.nil.c.c.c FctL.nil LenL.nil.c.c (.nil)
 exact CK.way _ ev [.i 3,.o 5,(.agg [.q 3 0,.o 0,.o 1,.o 2]),(.agg [.o 3,.o 4,.o 6])] (.tup [(.agg [.q 3 0,.o 0,.o 1,.o 2]),.i 0,.v 2]) (by decide +kernel) (kc h0 kn)
abbrev b_PIn_3ok:Bk:={ vars:=[(0,30),(0,30)],lens:=[(0,[([0],1)]),(1,[([1],1)])],extV:=[(69,[.q 3 0,(.agg [.o 3,.o 4,.o 6])],(.tup [.q 3 1,.i 0])),
 (54,[.q 3 1],(.tup [(.agg [.o 7,.o 8,.o 9]),.i 0]))] }
theorem PIn_3ok {L:List Lay} {p0 p1 p2:Int} (hl:L.length≤30) {x y c z:Int} {L2:List Lay} (hl2:L2.length≤30) {t0 t1 t2:Int} (h0:Ck 69 [.lit 3 (laysR L),Lay.av ⟨x,y,z⟩] (.tup [.lit 3 (laysR L2),.i 0])) (h1:Ck 54 [.lit 3 (laysR L2)] (.tup [Lay.av ⟨t0,t1,t2⟩,.i 0])) :
 Ck 16 [.i 3,.i c,PoolD.av ⟨L,p0,p1,p2⟩,Lay.av ⟨x,y,z⟩] (.tup [PoolD.av ⟨[⟨t0,t1,t2⟩],p0,p1,p2⟩,.i 0,.i 0]):=by
 let ev:=evS b_PIn_3ok [(L.length:Int),(L2.length:Int)] [.int .i64 p0,.int .i64 p1,.int .i64 p2,.int .i64 x,.int .i64 y,.int .i64 c,.int .i64 z,.int .i64 t0,.int .i64 t1,.int .i64 t2] [laysR L,laysR L2] BndL.nil.c.c FctL.nil LenL.nil.c.c (.nil)
 exact CK.way _ ev [.i 3,.o 5,(.agg [.q 3 0,.o 0,.o 1,.o 2]),(.agg [.o 3,.o 4,.o 6])] (.tup [(.agg [(.lit 3 [[.o 7,.o 8,.o 9]]),.o 0,.o 1,.o 2]),.i 0,.i 0]) (by decide +kernel) (kc h0 (kc h1 kn))
abbrev b_PIn_4q:Bk:={ vars:=[(0,30),(-9223372036854775808,0),w64,(0,1073741824)],lens:=[(0,[([0],1)])] }
theorem PIn_4q {L:List Lay} {p0 p1 p2:Int} (hl:L.length≤30) {x:Int} (b_x:-9223372036854775808≤x∧x≤9223372036854775807) {y:Int} (b_y:-9223372036854775808≤y∧y≤9223372036854775807) {c:Int} (b_c:0≤c∧c≤1073741824) {z:Int} (hx:x≤0)  :
 Ck 16 [.i 4,.i c,PoolD.av ⟨L,p0,p1,p2⟩,Lay.av ⟨x,y,z⟩] (.tup [PoolD.av ⟨L,p0,p1,p2⟩,.i 0,.i 1]):=by
 let ev:=evS b_PIn_4q [(L.length:Int),x,y,c] [.int .i64 p0,.int .i64 p1,.int .i64 p2,.int .i64 z] [laysR L] BndL.nil.c.c.c.c FctL.nil LenL.nil.c (.nil)
 exact CK.way _ ev [.i 4,.v 3,(.agg [.q 3 0,.o 0,.o 1,.o 2]),(.agg [.v 1,.v 2,.o 3])] (.tup [(.agg [.q 3 0,.o 0,.o 1,.o 2]),.i 0,.i 1]) (by decide +kernel) kn
abbrev b_PIn_4v:Bk:={ vars:=[(0,30),(1,9223372036854775807),(-9223372036854775808,-1),(0,1073741824)],lens:=[(0,[([0],1)])] }
theorem PIn_4v {L:List Lay} {p0 p1 p2:Int} (hl:L.length≤30) {x:Int} (b_x:-9223372036854775808≤x∧x≤9223372036854775807) {y:Int} (b_y:-9223372036854775808≤y∧y≤9223372036854775807) {c:Int} (b_c:0≤c∧c≤1073741824) {z:Int} (hx:1≤x) (hy:y≤-1)  :
 Ck 16 [.i 4,.i c,PoolD.av ⟨L,p0,p1,p2⟩,Lay.av ⟨x,y,z⟩] (.tup [PoolD.av ⟨L,p0,p1,p2⟩,.i 0,.i 1]):=by
 let ev:=evS b_PIn_4v [(L.length:Int),x,y,c] [.int .i64 p0,.int .i64 p1,.int .i64 p2,.int .i64 z] [laysR L] BndL.nil.c.c.c.c FctL.nil LenL.nil.c (.nil)
 exact CK.way _ ev [.i 4,.v 3,(.agg [.q 3 0,.o 0,.o 1,.o 2]),(.agg [.v 1,.v 2,.o 3])] (.tup [(.agg [.q 3 0,.o 0,.o 1,.o 2]),.i 0,.i 1]) (by decide +kernel) kn
abbrev b_PIn_4mul:Bk:={ vars:=[(0,30),(1,9223372036854775807),(0,9223372036854775807),(0,1073741824),(0,288230376151711744),(1,20)],lens:=[(0,[([0],1)])],extV:=[(65,[.v 1,.v 3,.i 1],(.tup [.v 4,.o 4,.v 5]))] }
theorem PIn_4mul {L:List Lay} {p0 p1 p2:Int} (hl:L.length≤30) {x:Int} (b_x:-9223372036854775808≤x∧x≤9223372036854775807) {y:Int} (b_y:-9223372036854775808≤y∧y≤9223372036854775807) {c:Int} (b_c:0≤c∧c≤1073741824) {z:Int} (hx:1≤x) (hy:0≤y) {v:Int} (b_v:0≤v∧v≤288230376151711744) {r f:Int} (b_f:1≤f∧f≤20) (h0:Ck 65 [.i x,.i c,.i 1] (.tup [.i v,.i r,.i f])) :
 Ck 16 [.i 4,.i c,PoolD.av ⟨L,p0,p1,p2⟩,Lay.av ⟨x,y,z⟩] (.tup [PoolD.av ⟨L,p0,p1,p2⟩,.i 0,.i 2]):=by
 let ev:=evS b_PIn_4mul [(L.length:Int),x,y,c,v,f] [.int .i64 p0,.int .i64 p1,.int .i64 p2,.int .i64 z,.int .i64 r] [laysR L] BndL.nil.c.c.c.c.c.c FctL.nil LenL.nil.c (.nil)
 exact CK.way _ ev [.i 4,.v 3,(.agg [.q 3 0,.o 0,.o 1,.o 2]),(.agg [.v 1,.v 2,.o 3])] (.tup [(.agg [.q 3 0,.o 0,.o 1,.o 2]),.i 0,.i 2]) (by decide +kernel) (kc h0 kn)
abbrev b_PIn_4great:Bk:={ vars:=[(0,30),(1,9223372036854775807),(288230376151711745,9223372036854775807),(0,1073741824),(0,288230376151711744)],lens:=[(0,[([0],1)])],extV:=[(65,[.v 1,.v 3,.i 1],(.tup [.v 4,.o 4,.i 0]))] }
theorem PIn_4great {L:List Lay} {p0 p1 p2:Int} (hl:L.length≤30) {x:Int} (b_x:-9223372036854775808≤x∧x≤9223372036854775807) {y:Int} (b_y:-9223372036854775808≤y∧y≤9223372036854775807) {c:Int} (b_c:0≤c∧c≤1073741824) {z:Int} (hx:1≤x) (hy:0≤y) {v:Int} (b_v:0≤v∧v≤288230376151711744) {r:Int} (hg:288230376151711744<y) (h0:Ck 65 [.i x,.i c,.i 1] (.tup [.i v,.i r,.i 0])) :
 Ck 16 [.i 4,.i c,PoolD.av ⟨L,p0,p1,p2⟩,Lay.av ⟨x,y,z⟩] (.tup [PoolD.av ⟨L,p0,p1,p2⟩,.i 0,.i 2]):=by
 let ev:=evS b_PIn_4great [(L.length:Int),x,y,c,v] [.int .i64 p0,.int .i64 p1,.int .i64 p2,.int .i64 z,.int .i64 r] [laysR L] BndL.nil.c.c.c.c.c FctL.nil LenL.nil.c (.nil)
 exact CK.way _ ev [.i 4,.v 3,(.agg [.q 3 0,.o 0,.o 1,.o 2]),(.agg [.v 1,.v 2,.o 3])] (.tup [(.agg [.q 3 0,.o 0,.o 1,.o 2]),.i 0,.i 2]) (by decide +kernel) (kc h0 kn)
abbrev b_PIn_4err:Bk:={ vars:=[(0,30),(1,9223372036854775807),(0,288230376151711744),(0,1073741824),(0,288230376151711744),(0,30),(1,20)],lens:=[(0,[([0],1)]),(1,[([5],1)])],extV:=[(65,[.v 1,.v 3,.i 1],(.tup [.v 4,.o 4,.i 0])),
 (69,[.q 3 0,(.agg [.v 1,.v 4,.o 3])],(.tup [.q 3 1,.v 6]))] }
theorem PIn_4err {L:List Lay} {p0 p1 p2:Int} (hl:L.length≤30) {x:Int} (b_x:-9223372036854775808≤x∧x≤9223372036854775807) {y:Int} (b_y:-9223372036854775808≤y∧y≤9223372036854775807) {c:Int} (b_c:0≤c∧c≤1073741824) {z:Int} (hx:1≤x) (hy:0≤y) {v:Int} (b_v:0≤v∧v≤288230376151711744) {r:Int} (hg:y≤288230376151711744) {L2:List Lay} (hl2:L2.length≤30) {f:Int} (b_f:1≤f∧f≤20) {up:Int} (h_up:up=y-v) (h0:Ck 65 [.i x,.i c,.i 1] (.tup [.i v,.i r,.i 0])) (h1:Ck 69 [.lit 3 (laysR L),Lay.av ⟨x,v,z⟩] (.tup [.lit 3 (laysR L2),.i f])) :
 Ck 16 [.i 4,.i c,PoolD.av ⟨L,p0,p1,p2⟩,Lay.av ⟨x,y,z⟩] (.tup [PoolD.av ⟨L,p0,p1,p2⟩,.i 0,.i f]):=by
 obtain⟨ρ,hρ⟩:=rh [(L.length:Int),x,y,c,v,(L2.length:Int),f]
 obtain rfl:=eqv hρ h_up [([2],1),([4],-1)]
 subst hρ
 let ev:=evS b_PIn_4err [(L.length:Int),x,y,c,v,(L2.length:Int),f] [.int .i64 p0,.int .i64 p1,.int .i64 p2,.int .i64 z,.int .i64 r] [laysR L,laysR L2] BndL.nil.c.c.c.c.c.c.c FctL.nil LenL.nil.c.c (.nil)
 exact CK.way _ ev [.i 4,.v 3,(.agg [.q 3 0,.o 0,.o 1,.o 2]),(.agg [.v 1,.v 2,.o 3])] (.tup [(.agg [.q 3 0,.o 0,.o 1,.o 2]),.i 0,.v 6]) (by decide +kernel) (kc h0 (kc h1 kn))
abbrev b_PIn_4ok:Bk:={ vars:=[(0,30),(1,9223372036854775807),(0,288230376151711744),(0,1073741824),(0,288230376151711744),(0,30)],lens:=[(0,[([0],1)]),(1,[([5],1)])],extV:=[(65,[.v 1,.v 3,.i 1],(.tup [.v 4,.o 4,.i 0])),
 (69,[.q 3 0,(.agg [.v 1,.v 4,.o 3])],(.tup [.q 3 1,.i 0])),
 (54,[.q 3 1],(.tup [(.agg [.o 5,.o 6,.o 7]),.i 0]))] }
theorem PIn_4ok {L:List Lay} {p0 p1 p2:Int} (hl:L.length≤30) {x:Int} (b_x:-9223372036854775808≤x∧x≤9223372036854775807) {y:Int} (b_y:-9223372036854775808≤y∧y≤9223372036854775807) {c:Int} (b_c:0≤c∧c≤1073741824) {z:Int} (hx:1≤x) (hy:0≤y) {v:Int} (b_v:0≤v∧v≤288230376151711744) {r:Int} (hg:y≤288230376151711744) {L2:List Lay} (hl2:L2.length≤30) {t0 t1 t2 up:Int} (h_up:up=y-v) (h0:Ck 65 [.i x,.i c,.i 1] (.tup [.i v,.i r,.i 0])) (h1:Ck 69 [.lit 3 (laysR L),Lay.av ⟨x,v,z⟩] (.tup [.lit 3 (laysR L2),.i 0])) (h2:Ck 54 [.lit 3 (laysR L2)] (.tup [Lay.av ⟨t0,t1,t2⟩,.i 0])) :
 Ck 16 [.i 4,.i c,PoolD.av ⟨L,p0,p1,p2⟩,Lay.av ⟨x,y,z⟩] (.tup [PoolD.av ⟨[⟨t0,t1,t2⟩],p0,p1,p2⟩,.i up,.i 0]):=by
 obtain⟨ρ,hρ⟩:=rh [(L.length:Int),x,y,c,v,(L2.length:Int)]
 obtain rfl:=eqv hρ h_up [([2],1),([4],-1)]
 subst hρ
 let ev:=evS b_PIn_4ok [(L.length:Int),x,y,c,v,(L2.length:Int)] [.int .i64 p0,.int .i64 p1,.int .i64 p2,.int .i64 z,.int .i64 r,.int .i64 t0,.int .i64 t1,.int .i64 t2] [laysR L,laysR L2] BndL.nil.c.c.c.c.c.c FctL.nil LenL.nil.c.c (.nil)
 exact CK.way _ ev [.i 4,.v 3,(.agg [.q 3 0,.o 0,.o 1,.o 2]),(.agg [.v 1,.v 2,.o 3])] (.tup [(.agg [(.lit 3 [[.o 5,.o 6,.o 7]]),.o 0,.o 1,.o 2]),(.e [([2],1),([4],(-1))]),.i 0]) (by decide +kernel) (kc h0 (kc h1 (kc h2 kn)))
abbrev b_POut_1err:Bk:={ vars:=[(0,30),w64,(0,3),(0,30),(1,20)],lens:=[(0,[([0],1)]),(1,[([3],1)])],extV:=[(70,[.q 3 0,.v 1],(.tup [.q 3 1,(.agg [.o 4,.o 5,.o 6]),.v 4]))] }
theorem POut_1err {L:List Lay} {p0 p1 p2:Int} (hl:L.length≤30) {c q:Int} (b_q:-9223372036854775808≤q∧q≤9223372036854775807) {k:Int} (b_k:0≤k∧k≤3) {L2:List Lay} (hl2:L2.length≤30) {f:Int} (b_f:1≤f∧f≤20) {xq xv xp:Int} (h0:Ck 70 [.lit 3 (laysR L),.i q] (.tup [.lit 3 (laysR L2),Lay.av ⟨xq,xv,xp⟩,.i f])) :
 Ck 17 [.i 1,.i c,PoolD.av ⟨L,p0,p1,p2⟩,.i k,.i q] (.tup [PoolD.av ⟨L,p0,p1,p2⟩,Lay.av ⟨0,0,0⟩,.c (.bool false),.i f]):=by
 let ev:=evS b_POut_1err [(L.length:Int),q,k,(L2.length:Int),f] [.int .i64 p0,.int .i64 p1,.int .i64 p2,.int .i64 c,.int .i64 xq,.int .i64 xv,.int .i64 xp] [laysR L,laysR L2] BndL.nil.c.c.c.c.c FctL.nil LenL.nil.c.c (.nil)
 exact CK.way _ ev [.i 1,.o 3,(.agg [.q 3 0,.o 0,.o 1,.o 2]),.v 2,.v 1] (.tup [(.agg [.q 3 0,.o 0,.o 1,.o 2]),(.agg [.i 0,.i 0,.i 0]),(.c (.bool false)),.v 4]) (by decide +kernel) (kc h0 kn)
abbrev b_POut_1ok:Bk:={ vars:=[(0,30),w64,(0,3),(0,30)],lens:=[(0,[([0],1)]),(1,[([3],1)])],extV:=[(70,[.q 3 0,.v 1],(.tup [.q 3 1,(.agg [.o 4,.o 5,.o 6]),.i 0]))] }
theorem POut_1ok {L:List Lay} {p0 p1 p2:Int} (hl:L.length≤30) {c q:Int} (b_q:-9223372036854775808≤q∧q≤9223372036854775807) {k:Int} (b_k:0≤k∧k≤3) {L2:List Lay} (hl2:L2.length≤30) {xq xv xp:Int} (h0:Ck 70 [.lit 3 (laysR L),.i q] (.tup [.lit 3 (laysR L2),Lay.av ⟨xq,xv,xp⟩,.i 0])) :
 Ck 17 [.i 1,.i c,PoolD.av ⟨L,p0,p1,p2⟩,.i k,.i q] (.tup [PoolD.av ⟨L2,p0,p1,p2⟩,Lay.av ⟨xq,xv,xp⟩,.c (.bool false),.i 0]):=by
 let ev:=evS b_POut_1ok [(L.length:Int),q,k,(L2.length:Int)] [.int .i64 p0,.int .i64 p1,.int .i64 p2,.int .i64 c,.int .i64 xq,.int .i64 xv,.int .i64 xp] [laysR L,laysR L2] BndL.nil.c.c.c.c FctL.nil LenL.nil.c.c (.nil)
 exact CK.way _ ev [.i 1,.o 3,(.agg [.q 3 0,.o 0,.o 1,.o 2]),.v 2,.v 1] (.tup [(.agg [.q 3 1,.o 0,.o 1,.o 2]),(.agg [.o 4,.o 5,.o 6]),(.c (.bool false)),.i 0]) (by decide +kernel) (kc h0 kn)
abbrev b_POut_2err:Bk:={ vars:=[(0,30),w64,(0,3),(0,30),(1,20)],lens:=[(0,[([0],1)]),(1,[([3],1)])],extV:=[(70,[.q 3 0,.v 1],(.tup [.q 3 1,(.agg [.o 4,.o 5,.o 6]),.v 4]))] }
theorem POut_2err {L:List Lay} {p0 p1 p2:Int} (hl:L.length≤30) {c q:Int} (b_q:-9223372036854775808≤q∧q≤9223372036854775807) {k:Int} (b_k:0≤k∧k≤3) {L2:List Lay} (hl2:L2.length≤30) {f:Int} (b_f:1≤f∧f≤20) {xq xv xp:Int} (h0:Ck 70 [.lit 3 (laysR L),.i q] (.tup [.lit 3 (laysR L2),Lay.av ⟨xq,xv,xp⟩,.i f])) :
 Ck 17 [.i 2,.i c,PoolD.av ⟨L,p0,p1,p2⟩,.i k,.i q] (.tup [PoolD.av ⟨L,p0,p1,p2⟩,Lay.av ⟨0,0,0⟩,.c (.bool false),.i f]):=by
 let ev:=evS b_POut_2err [(L.length:Int),q,k,(L2.length:Int),f] [.int .i64 p0,.int .i64 p1,.int .i64 p2,.int .i64 c,.int .i64 xq,.int .i64 xv,.int .i64 xp] [laysR L,laysR L2] BndL.nil.c.c.c.c.c FctL.nil LenL.nil.c.c (.nil)
 exact CK.way _ ev [.i 2,.o 3,(.agg [.q 3 0,.o 0,.o 1,.o 2]),.v 2,.v 1] (.tup [(.agg [.q 3 0,.o 0,.o 1,.o 2]),(.agg [.i 0,.i 0,.i 0]),(.c (.bool false)),.v 4]) (by decide +kernel) (kc h0 kn)
abbrev b_POut_2ok:Bk:={ vars:=[(0,30),w64,(0,3),(0,30)],lens:=[(0,[([0],1)]),(1,[([3],1)])],extV:=[(70,[.q 3 0,.v 1],(.tup [.q 3 1,(.agg [.o 4,.o 5,.o 6]),.i 0]))] }
theorem POut_2ok {L:List Lay} {p0 p1 p2:Int} (hl:L.length≤30) {c q:Int} (b_q:-9223372036854775808≤q∧q≤9223372036854775807) {k:Int} (b_k:0≤k∧k≤3) {L2:List Lay} (hl2:L2.length≤30) {xq xv xp:Int} (h0:Ck 70 [.lit 3 (laysR L),.i q] (.tup [.lit 3 (laysR L2),Lay.av ⟨xq,xv,xp⟩,.i 0])) :
 Ck 17 [.i 2,.i c,PoolD.av ⟨L,p0,p1,p2⟩,.i k,.i q] (.tup [PoolD.av ⟨L2,p0,p1,p2⟩,Lay.av ⟨xq,xv,xp⟩,.c (.bool false),.i 0]):=by
 let ev:=evS b_POut_2ok [(L.length:Int),q,k,(L2.length:Int)] [.int .i64 p0,.int .i64 p1,.int .i64 p2,.int .i64 c,.int .i64 xq,.int .i64 xv,.int .i64 xp] [laysR L,laysR L2] BndL.nil.c.c.c.c FctL.nil LenL.nil.c.c (.nil)
 exact CK.way _ ev [.i 2,.o 3,(.agg [.q 3 0,.o 0,.o 1,.o 2]),.v 2,.v 1] (.tup [(.agg [.q 3 1,.o 0,.o 1,.o 2]),(.agg [.o 4,.o 5,.o 6]),(.c (.bool false)),.i 0]) (by decide +kernel) (kc h0 kn)
abbrev b_POut_w0q:Bk:={ vars:=[(0,30),(-9223372036854775808,0)],lens:=[(0,[([0],1)])] }
theorem POut_w0q {L:List Lay} {p0 p1 p2:Int} (hl:L.length≤30) {c q:Int} (b_q:-9223372036854775808≤q∧q≤9223372036854775807) (hq:q≤0)  :
 Ck 17 [.i 3,.i c,PoolD.av ⟨L,p0,p1,p2⟩,.i 0,.i q] (.tup [PoolD.av ⟨L,p0,p1,p2⟩,Lay.av ⟨0,0,0⟩,.c (.bool false),.i 1]):=by
 let ev:=evS b_POut_w0q [(L.length:Int),q] [.int .i64 p0,.int .i64 p1,.int .i64 p2,.int .i64 c] [laysR L] BndL.nil.c.c FctL.nil LenL.nil.c (.nil)
 exact CK.way _ ev [.i 3,.o 3,(.agg [.q 3 0,.o 0,.o 1,.o 2]),.i 0,.v 1] (.tup [(.agg [.q 3 0,.o 0,.o 1,.o 2]),(.agg [.i 0,.i 0,.i 0]),(.c (.bool false)),.i 1]) (by decide +kernel) kn
abbrev b_POut_w0short:Bk:={ vars:=[(0,30),(1,9223372036854775807),(-4611686018427387904,4611686018427387904)],facts:=[([([1],-1),([2],1)],-18446744073709551616,-1)],lens:=[(0,[([0],1)])],extV:=[(12,[(.agg [.q 3 0,.o 0,.o 1,.o 2])],(.v 2))] }
theorem POut_w0short {L:List Lay} {p0 p1 p2:Int} (hl:L.length≤30) {c q:Int} (b_q:-9223372036854775808≤q∧q≤9223372036854775807) (hq:1≤q) {fr:Int} (b_fr:-4611686018427387904≤fr∧fr≤4611686018427387904) (hf:fr<q) (h0:Ck 12 [PoolD.av ⟨L,p0,p1,p2⟩] (.i fr)) :
 Ck 17 [.i 3,.i c,PoolD.av ⟨L,p0,p1,p2⟩,.i 0,.i q] (.tup [PoolD.av ⟨L,p0,p1,p2⟩,Lay.av ⟨0,0,0⟩,.c (.bool false),.i 5]):=by
 let ev:=evS b_POut_w0short [(L.length:Int),q,fr] [.int .i64 p0,.int .i64 p1,.int .i64 p2,.int .i64 c] [laysR L] BndL.nil.c.c.c FctL.nil.c LenL.nil.c (.nil)
 exact CK.way _ ev [.i 3,.o 3,(.agg [.q 3 0,.o 0,.o 1,.o 2]),.i 0,.v 1] (.tup [(.agg [.q 3 0,.o 0,.o 1,.o 2]),(.agg [.i 0,.i 0,.i 0]),(.c (.bool false)),.i 5]) (by decide +kernel) (kc h0 kn)
abbrev b_POut_w0ok:Bk:={ vars:=[(0,30),(1,4611686018427387904),(-4611686018427387904,4611686018427387904),w60],facts:=[([([1],-1),([2],1)],0,9223372036854775808)],lens:=[(0,[([0],1)])],extV:=[(12,[(.agg [.q 3 0,.v 3,.o 1,.o 2])],(.v 2))] }
theorem POut_w0ok {L:List Lay} {p0 p1 p2:Int} (hl:L.length≤30) {c q:Int} (b_q:-9223372036854775808≤q∧q≤9223372036854775807) (hq:1≤q) {fr:Int} (b_fr:-4611686018427387904≤fr∧fr≤4611686018427387904) (hf:q≤fr) (b_p:B60 p0) {d:Int} (h_d:d=p0+q) (h0:Ck 12 [PoolD.av ⟨L,p0,p1,p2⟩] (.i fr)) :
 Ck 17 [.i 3,.i c,PoolD.av ⟨L,p0,p1,p2⟩,.i 0,.i q] (.tup [PoolD.av ⟨L,d,p1,p2⟩,Lay.av ⟨0,0,0⟩,.c (.bool true),.i 0]):=by
 obtain⟨ρ,hρ⟩:=rh [(L.length:Int),q,fr,p0]
 obtain rfl:=eqv hρ h_d [([1],1),([3],1)]
 subst hρ
 let ev:=evS b_POut_w0ok [(L.length:Int),q,fr,p0] [.int .i64 p0,.int .i64 p1,.int .i64 p2,.int .i64 c] [laysR L] BndL.nil.c.c.c.c FctL.nil.c LenL.nil.c (.nil)
 exact CK.way _ ev [.i 3,.o 3,(.agg [.q 3 0,.v 3,.o 1,.o 2]),.i 0,.v 1] (.tup [(.agg [.q 3 0,(.e [([1],1),([3],1)]),.o 1,.o 2]),(.agg [.i 0,.i 0,.i 0]),(.c (.bool true)),.i 0]) (by decide +kernel) (kc h0 kn)
abbrev b_POut_w1q:Bk:={ vars:=[(0,30),(-9223372036854775808,0)],lens:=[(0,[([0],1)])] }
theorem POut_w1q {L:List Lay} {p0 p1 p2:Int} (hl:L.length≤30) {c q:Int} (b_q:-9223372036854775808≤q∧q≤9223372036854775807) (hq:q≤0)  :
 Ck 17 [.i 3,.i c,PoolD.av ⟨L,p0,p1,p2⟩,.i 1,.i q] (.tup [PoolD.av ⟨L,p0,p1,p2⟩,Lay.av ⟨0,0,0⟩,.c (.bool false),.i 1]):=by
 let ev:=evS b_POut_w1q [(L.length:Int),q] [.int .i64 p0,.int .i64 p1,.int .i64 p2,.int .i64 c] [laysR L] BndL.nil.c.c FctL.nil LenL.nil.c (.nil)
 exact CK.way _ ev [.i 3,.o 3,(.agg [.q 3 0,.o 0,.o 1,.o 2]),.i 1,.v 1] (.tup [(.agg [.q 3 0,.o 0,.o 1,.o 2]),(.agg [.i 0,.i 0,.i 0]),(.c (.bool false)),.i 1]) (by decide +kernel) kn
abbrev b_POut_w1short:Bk:={ vars:=[(0,30),(1,9223372036854775807),(-4611686018427387904,4611686018427387904)],facts:=[([([1],-1),([2],1)],-18446744073709551616,-1)],lens:=[(0,[([0],1)])],extV:=[(12,[(.agg [.q 3 0,.o 0,.o 1,.o 2])],(.v 2))] }
theorem POut_w1short {L:List Lay} {p0 p1 p2:Int} (hl:L.length≤30) {c q:Int} (b_q:-9223372036854775808≤q∧q≤9223372036854775807) (hq:1≤q) {fr:Int} (b_fr:-4611686018427387904≤fr∧fr≤4611686018427387904) (hf:fr<q) (h0:Ck 12 [PoolD.av ⟨L,p0,p1,p2⟩] (.i fr)) :
 Ck 17 [.i 3,.i c,PoolD.av ⟨L,p0,p1,p2⟩,.i 1,.i q] (.tup [PoolD.av ⟨L,p0,p1,p2⟩,Lay.av ⟨0,0,0⟩,.c (.bool false),.i 5]):=by
 let ev:=evS b_POut_w1short [(L.length:Int),q,fr] [.int .i64 p0,.int .i64 p1,.int .i64 p2,.int .i64 c] [laysR L] BndL.nil.c.c.c FctL.nil.c LenL.nil.c (.nil)
 exact CK.way _ ev [.i 3,.o 3,(.agg [.q 3 0,.o 0,.o 1,.o 2]),.i 1,.v 1] (.tup [(.agg [.q 3 0,.o 0,.o 1,.o 2]),(.agg [.i 0,.i 0,.i 0]),(.c (.bool false)),.i 5]) (by decide +kernel) (kc h0 kn)
abbrev b_POut_w1ok:Bk:={ vars:=[(0,30),(1,4611686018427387904),(-4611686018427387904,4611686018427387904),w60],facts:=[([([1],-1),([2],1)],0,9223372036854775808)],lens:=[(0,[([0],1)])],extV:=[(12,[(.agg [.q 3 0,.o 0,.v 3,.o 2])],(.v 2))] }
theorem POut_w1ok {L:List Lay} {p0 p1 p2:Int} (hl:L.length≤30) {c q:Int} (b_q:-9223372036854775808≤q∧q≤9223372036854775807) (hq:1≤q) {fr:Int} (b_fr:-4611686018427387904≤fr∧fr≤4611686018427387904) (hf:q≤fr) (b_p:B60 p1) {d:Int} (h_d:d=p1+q) (h0:Ck 12 [PoolD.av ⟨L,p0,p1,p2⟩] (.i fr)) :
 Ck 17 [.i 3,.i c,PoolD.av ⟨L,p0,p1,p2⟩,.i 1,.i q] (.tup [PoolD.av ⟨L,p0,d,p2⟩,Lay.av ⟨0,0,0⟩,.c (.bool true),.i 0]):=by
 obtain⟨ρ,hρ⟩:=rh [(L.length:Int),q,fr,p1]
 obtain rfl:=eqv hρ h_d [([1],1),([3],1)]
 subst hρ
 let ev:=evS b_POut_w1ok [(L.length:Int),q,fr,p1] [.int .i64 p0,.int .i64 p1,.int .i64 p2,.int .i64 c] [laysR L] BndL.nil.c.c.c.c FctL.nil.c LenL.nil.c (.nil)
 exact CK.way _ ev [.i 3,.o 3,(.agg [.q 3 0,.o 0,.v 3,.o 2]),.i 1,.v 1] (.tup [(.agg [.q 3 0,.o 0,(.e [([1],1),([3],1)]),.o 2]),(.agg [.i 0,.i 0,.i 0]),(.c (.bool true)),.i 0]) (by decide +kernel) (kc h0 kn)
abbrev b_POut_w2q:Bk:={ vars:=[(0,30),(-9223372036854775808,0)],lens:=[(0,[([0],1)])] }
theorem POut_w2q {L:List Lay} {p0 p1 p2:Int} (hl:L.length≤30) {c q:Int} (b_q:-9223372036854775808≤q∧q≤9223372036854775807) (hq:q≤0)  :
 Ck 17 [.i 3,.i c,PoolD.av ⟨L,p0,p1,p2⟩,.i 2,.i q] (.tup [PoolD.av ⟨L,p0,p1,p2⟩,Lay.av ⟨0,0,0⟩,.c (.bool false),.i 1]):=by
 let ev:=evS b_POut_w2q [(L.length:Int),q] [.int .i64 p0,.int .i64 p1,.int .i64 p2,.int .i64 c] [laysR L] BndL.nil.c.c FctL.nil LenL.nil.c (.nil)
 exact CK.way _ ev [.i 3,.o 3,(.agg [.q 3 0,.o 0,.o 1,.o 2]),.i 2,.v 1] (.tup [(.agg [.q 3 0,.o 0,.o 1,.o 2]),(.agg [.i 0,.i 0,.i 0]),(.c (.bool false)),.i 1]) (by decide +kernel) kn
abbrev b_POut_w2short:Bk:={ vars:=[(0,30),(1,9223372036854775807),(-4611686018427387904,4611686018427387904)],facts:=[([([1],-1),([2],1)],-18446744073709551616,-1)],lens:=[(0,[([0],1)])],extV:=[(12,[(.agg [.q 3 0,.o 0,.o 1,.o 2])],(.v 2))] }
theorem POut_w2short {L:List Lay} {p0 p1 p2:Int} (hl:L.length≤30) {c q:Int} (b_q:-9223372036854775808≤q∧q≤9223372036854775807) (hq:1≤q) {fr:Int} (b_fr:-4611686018427387904≤fr∧fr≤4611686018427387904) (hf:fr<q) (h0:Ck 12 [PoolD.av ⟨L,p0,p1,p2⟩] (.i fr)) :
 Ck 17 [.i 3,.i c,PoolD.av ⟨L,p0,p1,p2⟩,.i 2,.i q] (.tup [PoolD.av ⟨L,p0,p1,p2⟩,Lay.av ⟨0,0,0⟩,.c (.bool false),.i 5]):=by
 let ev:=evS b_POut_w2short [(L.length:Int),q,fr] [.int .i64 p0,.int .i64 p1,.int .i64 p2,.int .i64 c] [laysR L] BndL.nil.c.c.c FctL.nil.c LenL.nil.c (.nil)
 exact CK.way _ ev [.i 3,.o 3,(.agg [.q 3 0,.o 0,.o 1,.o 2]),.i 2,.v 1] (.tup [(.agg [.q 3 0,.o 0,.o 1,.o 2]),(.agg [.i 0,.i 0,.i 0]),(.c (.bool false)),.i 5]) (by decide +kernel) (kc h0 kn)
abbrev b_POut_w2ok:Bk:={ vars:=[(0,30),(1,4611686018427387904),(-4611686018427387904,4611686018427387904),w60],facts:=[([([1],-1),([2],1)],0,9223372036854775808)],lens:=[(0,[([0],1)])],extV:=[(12,[(.agg [.q 3 0,.o 0,.o 1,.v 3])],(.v 2))] }
theorem POut_w2ok {L:List Lay} {p0 p1 p2:Int} (hl:L.length≤30) {c q:Int} (b_q:-9223372036854775808≤q∧q≤9223372036854775807) (hq:1≤q) {fr:Int} (b_fr:-4611686018427387904≤fr∧fr≤4611686018427387904) (hf:q≤fr) (b_p:B60 p2) {d:Int} (h_d:d=p2+q) (h0:Ck 12 [PoolD.av ⟨L,p0,p1,p2⟩] (.i fr)) :
 Ck 17 [.i 3,.i c,PoolD.av ⟨L,p0,p1,p2⟩,.i 2,.i q] (.tup [PoolD.av ⟨L,p0,p1,d⟩,Lay.av ⟨0,0,0⟩,.c (.bool true),.i 0]):=by
 obtain⟨ρ,hρ⟩:=rh [(L.length:Int),q,fr,p2]
 obtain rfl:=eqv hρ h_d [([1],1),([3],1)]
 subst hρ
 let ev:=evS b_POut_w2ok [(L.length:Int),q,fr,p2] [.int .i64 p0,.int .i64 p1,.int .i64 p2,.int .i64 c] [laysR L] BndL.nil.c.c.c.c FctL.nil.c LenL.nil.c (.nil)
 exact CK.way _ ev [.i 3,.o 3,(.agg [.q 3 0,.o 0,.o 1,.v 3]),.i 2,.v 1] (.tup [(.agg [.q 3 0,.o 0,.o 1,(.e [([1],1),([3],1)])]),(.agg [.i 0,.i 0,.i 0]),(.c (.bool true)),.i 0]) (by decide +kernel) (kc h0 kn)
abbrev b_POut_3q:Bk:={ vars:=[(0,30),(-9223372036854775808,0)],lens:=[(0,[([0],1)])] }
theorem POut_3q {L:List Lay} {p0 p1 p2:Int} (hl:L.length≤30) {c q:Int} (b_q:-9223372036854775808≤q∧q≤9223372036854775807) (hq:q≤0)  :
 Ck 17 [.i 3,.i c,PoolD.av ⟨L,p0,p1,p2⟩,.i 3,.i q] (.tup [PoolD.av ⟨L,p0,p1,p2⟩,Lay.av ⟨0,0,0⟩,.c (.bool false),.i 1]):=by
 let ev:=evS b_POut_3q [(L.length:Int),q] [.int .i64 p0,.int .i64 p1,.int .i64 p2,.int .i64 c] [laysR L] BndL.nil.c.c FctL.nil LenL.nil.c (.nil)
 exact CK.way _ ev [.i 3,.o 3,(.agg [.q 3 0,.o 0,.o 1,.o 2]),.i 3,.v 1] (.tup [(.agg [.q 3 0,.o 0,.o 1,.o 2]),(.agg [.i 0,.i 0,.i 0]),(.c (.bool false)),.i 1]) (by decide +kernel) kn
abbrev b_POut_3short:Bk:={ vars:=[(0,30),(1,9223372036854775807),(-4611686018427387904,4611686018427387904)],facts:=[([([1],-1),([2],1)],-18446744073709551616,-1)],lens:=[(0,[([0],1)])],extV:=[(12,[(.agg [.q 3 0,.o 0,.o 1,.o 2])],(.v 2))] }
theorem POut_3short {L:List Lay} {p0 p1 p2:Int} (hl:L.length≤30) {c q:Int} (b_q:-9223372036854775808≤q∧q≤9223372036854775807) (hq:1≤q) {fr:Int} (b_fr:-4611686018427387904≤fr∧fr≤4611686018427387904) (hf:fr<q) (h0:Ck 12 [PoolD.av ⟨L,p0,p1,p2⟩] (.i fr)) :
 Ck 17 [.i 3,.i c,PoolD.av ⟨L,p0,p1,p2⟩,.i 3,.i q] (.tup [PoolD.av ⟨L,p0,p1,p2⟩,Lay.av ⟨0,0,0⟩,.c (.bool false),.i 5]):=by
 let ev:=evS b_POut_3short [(L.length:Int),q,fr] [.int .i64 p0,.int .i64 p1,.int .i64 p2,.int .i64 c] [laysR L] BndL.nil.c.c.c FctL.nil.c LenL.nil.c (.nil)
 exact CK.way _ ev [.i 3,.o 3,(.agg [.q 3 0,.o 0,.o 1,.o 2]),.i 3,.v 1] (.tup [(.agg [.q 3 0,.o 0,.o 1,.o 2]),(.agg [.i 0,.i 0,.i 0]),(.c (.bool false)),.i 5]) (by decide +kernel) (kc h0 kn)
abbrev b_POut_3err:Bk:={ vars:=[(0,30),(1,4611686018427387904),(-4611686018427387904,4611686018427387904),(0,30),(1,20)],facts:=[([([1],-1),([2],1)],0,9223372036854775808)],lens:=[(0,[([0],1)]),(1,[([3],1)])],extV:=[(12,[(.agg [.q 3 0,.o 0,.o 1,.o 2])],(.v 2)),
 (70,[.q 3 0,.v 1],(.tup [.q 3 1,(.agg [.o 4,.o 5,.o 6]),.v 4]))] }
theorem POut_3err {L:List Lay} {p0 p1 p2:Int} (hl:L.length≤30) {c q:Int} (b_q:-9223372036854775808≤q∧q≤9223372036854775807) (hq:1≤q) {fr:Int} (b_fr:-4611686018427387904≤fr∧fr≤4611686018427387904) (hf:q≤fr) {L2:List Lay} (hl2:L2.length≤30) {f:Int} (b_f:1≤f∧f≤20) {xq xv xp:Int} (h0:Ck 12 [PoolD.av ⟨L,p0,p1,p2⟩] (.i fr)) (h1:Ck 70 [.lit 3 (laysR L),.i q] (.tup [.lit 3 (laysR L2),Lay.av ⟨xq,xv,xp⟩,.i f])) :
 Ck 17 [.i 3,.i c,PoolD.av ⟨L,p0,p1,p2⟩,.i 3,.i q] (.tup [PoolD.av ⟨L,p0,p1,p2⟩,Lay.av ⟨0,0,0⟩,.c (.bool false),.i f]):=by
 let ev:=evS b_POut_3err [(L.length:Int),q,fr,(L2.length:Int),f] [.int .i64 p0,.int .i64 p1,.int .i64 p2,.int .i64 c,.int .i64 xq,.int .i64 xv,.int .i64 xp] [laysR L,laysR L2] BndL.nil.c.c.c.c.c FctL.nil.c LenL.nil.c.c (.nil)
 exact CK.way _ ev [.i 3,.o 3,(.agg [.q 3 0,.o 0,.o 1,.o 2]),.i 3,.v 1] (.tup [(.agg [.q 3 0,.o 0,.o 1,.o 2]),(.agg [.i 0,.i 0,.i 0]),(.c (.bool false)),.v 4]) (by decide +kernel) (kc h0 (kc h1 kn))
abbrev b_POut_3ok:Bk:={ vars:=[(0,30),(1,4611686018427387904),(-4611686018427387904,4611686018427387904),(0,30)],facts:=[([([1],-1),([2],1)],0,9223372036854775808)],lens:=[(0,[([0],1)]),(1,[([3],1)])],extV:=[(12,[(.agg [.q 3 0,.o 0,.o 1,.o 2])],(.v 2)),
 (70,[.q 3 0,.v 1],(.tup [.q 3 1,(.agg [.o 4,.o 5,.o 6]),.i 0]))] }
theorem POut_3ok {L:List Lay} {p0 p1 p2:Int} (hl:L.length≤30) {c q:Int} (b_q:-9223372036854775808≤q∧q≤9223372036854775807) (hq:1≤q) {fr:Int} (b_fr:-4611686018427387904≤fr∧fr≤4611686018427387904) (hf:q≤fr) {L2:List Lay} (hl2:L2.length≤30) {xq xv xp:Int} (h0:Ck 12 [PoolD.av ⟨L,p0,p1,p2⟩] (.i fr)) (h1:Ck 70 [.lit 3 (laysR L),.i q] (.tup [.lit 3 (laysR L2),Lay.av ⟨xq,xv,xp⟩,.i 0])) :
 Ck 17 [.i 3,.i c,PoolD.av ⟨L,p0,p1,p2⟩,.i 3,.i q] (.tup [PoolD.av ⟨L2,p0,p1,p2⟩,Lay.av ⟨xq,xv,xp⟩,.c (.bool false),.i 0]):=by
 let ev:=evS b_POut_3ok [(L.length:Int),q,fr,(L2.length:Int)] [.int .i64 p0,.int .i64 p1,.int .i64 p2,.int .i64 c,.int .i64 xq,.int .i64 xv,.int .i64 xp] [laysR L,laysR L2] BndL.nil.c.c.c.c FctL.nil.c LenL.nil.c.c (.nil)
 exact CK.way _ ev [.i 3,.o 3,(.agg [.q 3 0,.o 0,.o 1,.o 2]),.i 3,.v 1] (.tup [(.agg [.q 3 1,.o 0,.o 1,.o 2]),(.agg [.o 4,.o 5,.o 6]),(.c (.bool false)),.i 0]) (by decide +kernel) (kc h0 (kc h1 kn))
abbrev b_POut_4eq:Bk:={ vars:=[(0,1073741824),(-9223372036854775808,0),(0,3)] }
theorem POut_4eq {p0 p1 p2:Int} {c:Int} (b_c:0≤c∧c≤1073741824) {q:Int} (b_q:-9223372036854775808≤q∧q≤9223372036854775807) {k:Int} (b_k:0≤k∧k≤3) (hq:q≤0)  :
 Ck 17 [.i 4,.i c,PoolD.av ⟨[],p0,p1,p2⟩,.i k,.i q] (.tup [PoolD.av ⟨[],p0,p1,p2⟩,Lay.av ⟨0,0,0⟩,.c (.bool false),.i 1]):=by
 let ev:=evS b_POut_4eq [c,q,k] [.int .i64 p0,.int .i64 p1,.int .i64 p2] [] BndL.nil.c.c.c FctL.nil LenL.nil (.nil)
 exact CK.way _ ev [.i 4,.v 0,(.agg [(.lit 3 []),.o 0,.o 1,.o 2]),.v 2,.v 1] (.tup [(.agg [(.lit 3 []),.o 0,.o 1,.o 2]),(.agg [.i 0,.i 0,.i 0]),(.c (.bool false)),.i 1]) (by decide +kernel) kn
abbrev b_POut_4es:Bk:={ vars:=[(0,1073741824),(1,9223372036854775807),(0,3)] }
theorem POut_4es {p0 p1 p2:Int} {c:Int} (b_c:0≤c∧c≤1073741824) {q:Int} (b_q:-9223372036854775808≤q∧q≤9223372036854775807) {k:Int} (b_k:0≤k∧k≤3) (hq:1≤q)  :
 Ck 17 [.i 4,.i c,PoolD.av ⟨[],p0,p1,p2⟩,.i k,.i q] (.tup [PoolD.av ⟨[],p0,p1,p2⟩,Lay.av ⟨0,0,0⟩,.c (.bool false),.i 5]):=by
 let ev:=evS b_POut_4es [c,q,k] [.int .i64 p0,.int .i64 p1,.int .i64 p2] [] BndL.nil.c.c.c FctL.nil LenL.nil (.nil)
 exact CK.way _ ev [.i 4,.v 0,(.agg [(.lit 3 []),.o 0,.o 1,.o 2]),.v 2,.v 1] (.tup [(.agg [(.lit 3 []),.o 0,.o 1,.o 2]),(.agg [.i 0,.i 0,.i 0]),(.c (.bool false)),.i 5]) (by decide +kernel) kn
abbrev b_POut_41q:Bk:={ vars:=[(0,1073741824),(-9223372036854775808,0),(0,3),(1,288230376151711744),(0,288230376151711744),w58] }
theorem POut_41q {p0 p1 p2:Int} {c:Int} (b_c:0≤c∧c≤1073741824) {q:Int} (b_q:-9223372036854775808≤q∧q≤9223372036854775807) {k:Int} (b_k:0≤k∧k≤3) {n:Int} (b_n:1≤n∧n≤288230376151711744) {v:Int} (b_v:0≤v∧v≤288230376151711744) {pf:Int} (b_pf:-288230376151711744≤pf∧pf≤288230376151711744) (hq:q≤0)  :
 Ck 17 [.i 4,.i c,PoolD.av ⟨[⟨n,v,pf⟩],p0,p1,p2⟩,.i k,.i q] (.tup [PoolD.av ⟨[⟨n,v,pf⟩],p0,p1,p2⟩,Lay.av ⟨0,0,0⟩,.c (.bool false),.i 1]):=by
 let ev:=evS b_POut_41q [c,q,k,n,v,pf] [.int .i64 p0,.int .i64 p1,.int .i64 p2] [] BndL.nil.c.c.c.c.c.c FctL.nil LenL.nil (.nil)
 exact CK.way _ ev [.i 4,.v 0,(.agg [(.lit 3 [[.v 3,.v 4,.v 5]]),.o 0,.o 1,.o 2]),.v 2,.v 1] (.tup [(.agg [(.lit 3 [[.v 3,.v 4,.v 5]]),.o 0,.o 1,.o 2]),(.agg [.i 0,.i 0,.i 0]),(.c (.bool false)),.i 1]) (by decide +kernel) kn
abbrev b_POut_41s:Bk:={ vars:=[(0,1073741824),(1,9223372036854775807),(0,3),(1,288230376151711744),(0,288230376151711744),w58],facts:=[([([1],1),([3],-1)],1,9223372036854775808)] }
theorem POut_41s {p0 p1 p2:Int} {c:Int} (b_c:0≤c∧c≤1073741824) {q:Int} (b_q:-9223372036854775808≤q∧q≤9223372036854775807) {k:Int} (b_k:0≤k∧k≤3) {n:Int} (b_n:1≤n∧n≤288230376151711744) {v:Int} (b_v:0≤v∧v≤288230376151711744) {pf:Int} (b_pf:-288230376151711744≤pf∧pf≤288230376151711744) (hq:1≤q) (hn:n<q)  :
 Ck 17 [.i 4,.i c,PoolD.av ⟨[⟨n,v,pf⟩],p0,p1,p2⟩,.i k,.i q] (.tup [PoolD.av ⟨[⟨n,v,pf⟩],p0,p1,p2⟩,Lay.av ⟨0,0,0⟩,.c (.bool false),.i 5]):=by
 let ev:=evS b_POut_41s [c,q,k,n,v,pf] [.int .i64 p0,.int .i64 p1,.int .i64 p2] [] BndL.nil.c.c.c.c.c.c FctL.nil.c LenL.nil (.nil)
 exact CK.way _ ev [.i 4,.v 0,(.agg [(.lit 3 [[.v 3,.v 4,.v 5]]),.o 0,.o 1,.o 2]),.v 2,.v 1] (.tup [(.agg [(.lit 3 [[.v 3,.v 4,.v 5]]),.o 0,.o 1,.o 2]),(.agg [.i 0,.i 0,.i 0]),(.c (.bool false)),.i 5]) (by decide +kernel) kn
abbrev b_POut_41a:Bk:={ vars:=[(0,1073741824),(1,9223372036854775807),(0,3),(1,288230376151711744),(0,288230376151711744),w58],facts:=[([([1],1),([3],-1)],0,0)] }
theorem POut_41a {p0 p1 p2:Int} {c:Int} (b_c:0≤c∧c≤1073741824) {q:Int} (b_q:-9223372036854775808≤q∧q≤9223372036854775807) {k:Int} (b_k:0≤k∧k≤3) {n:Int} (b_n:1≤n∧n≤288230376151711744) {v:Int} (b_v:0≤v∧v≤288230376151711744) {pf:Int} (b_pf:-288230376151711744≤pf∧pf≤288230376151711744) (hq:1≤q) (hn:q=n)  :
 Ck 17 [.i 4,.i c,PoolD.av ⟨[⟨n,v,pf⟩],p0,p1,p2⟩,.i k,.i q] (.tup [PoolD.av ⟨[],p0,p1,p2⟩,Lay.av ⟨n,v,pf⟩,.c (.bool false),.i 0]):=by
 let ev:=evS b_POut_41a [c,q,k,n,v,pf] [.int .i64 p0,.int .i64 p1,.int .i64 p2] [] BndL.nil.c.c.c.c.c.c FctL.nil.c LenL.nil (.nil)
 exact CK.way _ ev [.i 4,.v 0,(.agg [(.lit 3 [[.v 3,.v 4,.v 5]]),.o 0,.o 1,.o 2]),.v 2,.v 1] (.tup [(.agg [(.lit 3 []),.o 0,.o 1,.o 2]),(.agg [.v 3,.v 4,.v 5]),(.c (.bool false)),.i 0]) (by decide +kernel) kn
abbrev b_POut_41f:Bk:={ vars:=[(0,1073741824),(1,288230376151711744),(0,3),(1,288230376151711744),(0,288230376151711744),w58,(0,288230376151711744),w58,(0,288230376151711744)],facts:=[([([1],1),([3],-1)],-288230376151711744,-1),([([4],1),([6],-1)],0,288230376151711744),([([5],1),([7],-1)],-288230376151711744,288230376151711744),([([4],-1),([8],1)],-288230376151711744,0)],extV:=[(49,[.v 4,.v 1,.v 3],(.v 6)),
 (49,[.v 5,.v 1,.v 3],(.v 7)),
 (65,[.v 1,.v 0,.i 1],(.tup [.v 8,.o 3,.i 0]))] }
theorem POut_41f {p0 p1 p2:Int} {c:Int} (b_c:0≤c∧c≤1073741824) {q:Int} (b_q:-9223372036854775808≤q∧q≤9223372036854775807) {k:Int} (b_k:0≤k∧k≤3) {n:Int} (b_n:1≤n∧n≤288230376151711744) {v:Int} (b_v:0≤v∧v≤288230376151711744) {pf:Int} (b_pf:-288230376151711744≤pf∧pf≤288230376151711744) (hq:1≤q) (hn:q<n) {a:Int} (b_a:0≤a∧a≤288230376151711744) {b:Int} (b_b:-288230376151711744≤b∧b≤288230376151711744) {w:Int} (b_w:0≤w∧w≤288230376151711744) {r:Int} (ha:a≤v) (hb:-288230376151711744≤pf-b∧pf-b≤288230376151711744) (hw:w≤v) {nq:Int} (h_nq:nq=n-q) {pb:Int} (h_pb:pb=pf-b) {nv:Int} (h_nv:nv=v-w) (h0:Ck 49 [.i v,.i q,.i n] (.i a)) (h1:Ck 49 [.i pf,.i q,.i n] (.i b)) (h2:Ck 65 [.i q,.i c,.i 1] (.tup [.i w,.i r,.i 0])) :
 Ck 17 [.i 4,.i c,PoolD.av ⟨[⟨n,v,pf⟩],p0,p1,p2⟩,.i k,.i q] (.tup [PoolD.av ⟨[⟨nq,nv,pb⟩],p0,p1,p2⟩,Lay.av ⟨q,w,b⟩,.c (.bool false),.i 0]):=by
 obtain⟨ρ,hρ⟩:=rh [c,q,k,n,v,pf,a,b,w]
 obtain rfl:=eqv hρ h_nq [([1],-1),([3],1)]
 obtain rfl:=eqv hρ h_pb [([5],1),([7],-1)]
 obtain rfl:=eqv hρ h_nv [([4],1),([8],-1)]
 subst hρ
 let ev:=evS b_POut_41f [c,q,k,n,v,pf,a,b,w] [.int .i64 p0,.int .i64 p1,.int .i64 p2,.int .i64 r] [] BndL.nil.c.c.c.c.c.c.c.c.c FctL.nil.c.c.c.c LenL.nil (.nil)
 exact CK.way _ ev [.i 4,.v 0,(.agg [(.lit 3 [[.v 3,.v 4,.v 5]]),.o 0,.o 1,.o 2]),.v 2,.v 1] (.tup [(.agg [(.lit 3 [[(.e [([1],(-1)),([3],1)]),(.e [([4],1),([8],(-1))]),(.e [([5],1),([7],(-1))])]]),.o 0,.o 1,.o 2]),(.agg [.v 1,.v 8,.v 7]),(.c (.bool false)),.i 0]) (by decide +kernel) (kc h0 (kc h1 (kc h2 kn)))
abbrev b_POut_41g:Bk:={ vars:=[(0,1073741824),(1,288230376151711744),(0,3),(1,288230376151711744),(0,288230376151711744),w58,(0,288230376151711744),w58,(0,288230376151711744)],facts:=[([([1],1),([3],-1)],-288230376151711744,-1),([([4],1),([6],-1)],0,288230376151711744),([([5],1),([7],-1)],-288230376151711744,288230376151711744),([([4],-1),([8],1)],1,288230376151711744)],extV:=[(49,[.v 4,.v 1,.v 3],(.v 6)),
 (49,[.v 5,.v 1,.v 3],(.v 7)),
 (65,[.v 1,.v 0,.i 1],(.tup [.v 8,.o 3,.i 0]))] }
theorem POut_41g {p0 p1 p2:Int} {c:Int} (b_c:0≤c∧c≤1073741824) {q:Int} (b_q:-9223372036854775808≤q∧q≤9223372036854775807) {k:Int} (b_k:0≤k∧k≤3) {n:Int} (b_n:1≤n∧n≤288230376151711744) {v:Int} (b_v:0≤v∧v≤288230376151711744) {pf:Int} (b_pf:-288230376151711744≤pf∧pf≤288230376151711744) (hq:1≤q) (hn:q<n) {a:Int} (b_a:0≤a∧a≤288230376151711744) {b:Int} (b_b:-288230376151711744≤b∧b≤288230376151711744) {w:Int} (b_w:0≤w∧w≤288230376151711744) {r:Int} (ha:a≤v) (hb:-288230376151711744≤pf-b∧pf-b≤288230376151711744) (hw:v<w) {nq:Int} (h_nq:nq=n-q) {pb:Int} (h_pb:pb=pf-b) (h0:Ck 49 [.i v,.i q,.i n] (.i a)) (h1:Ck 49 [.i pf,.i q,.i n] (.i b)) (h2:Ck 65 [.i q,.i c,.i 1] (.tup [.i w,.i r,.i 0])) :
 Ck 17 [.i 4,.i c,PoolD.av ⟨[⟨n,v,pf⟩],p0,p1,p2⟩,.i k,.i q] (.tup [PoolD.av ⟨[⟨nq,0,pb⟩],p0,p1,p2⟩,Lay.av ⟨q,v,b⟩,.c (.bool false),.i 0]):=by
 obtain⟨ρ,hρ⟩:=rh [c,q,k,n,v,pf,a,b,w]
 obtain rfl:=eqv hρ h_nq [([1],-1),([3],1)]
 obtain rfl:=eqv hρ h_pb [([5],1),([7],-1)]
 subst hρ
 let ev:=evS b_POut_41g [c,q,k,n,v,pf,a,b,w] [.int .i64 p0,.int .i64 p1,.int .i64 p2,.int .i64 r] [] BndL.nil.c.c.c.c.c.c.c.c.c FctL.nil.c.c.c.c LenL.nil (.nil)
 exact CK.way _ ev [.i 4,.v 0,(.agg [(.lit 3 [[.v 3,.v 4,.v 5]]),.o 0,.o 1,.o 2]),.v 2,.v 1] (.tup [(.agg [(.lit 3 [[(.e [([1],(-1)),([3],1)]),.i 0,(.e [([5],1),([7],(-1))])]]),.o 0,.o 1,.o 2]),(.agg [.v 1,.v 4,.v 7]),(.c (.bool false)),.i 0]) (by decide +kernel) (kc h0 (kc h1 (kc h2 kn)))
abbrev b_POut_41m:Bk:={ vars:=[(0,1073741824),(1,288230376151711744),(0,3),(1,288230376151711744),(0,288230376151711744),w58,(0,288230376151711744),w58,(0,288230376151711744),(1,20)],facts:=[([([1],1),([3],-1)],-288230376151711744,-1),([([4],1),([6],-1)],0,288230376151711744),([([5],1),([7],-1)],-288230376151711744,288230376151711744)],extV:=[(49,[.v 4,.v 1,.v 3],(.v 6)),
 (49,[.v 5,.v 1,.v 3],(.v 7)),
 (65,[.v 1,.v 0,.i 1],(.tup [.v 8,.o 3,.v 9]))] }
theorem POut_41m {p0 p1 p2:Int} {c:Int} (b_c:0≤c∧c≤1073741824) {q:Int} (b_q:-9223372036854775808≤q∧q≤9223372036854775807) {k:Int} (b_k:0≤k∧k≤3) {n:Int} (b_n:1≤n∧n≤288230376151711744) {v:Int} (b_v:0≤v∧v≤288230376151711744) {pf:Int} (b_pf:-288230376151711744≤pf∧pf≤288230376151711744) (hq:1≤q) (hn:q<n) {a:Int} (b_a:0≤a∧a≤288230376151711744) {b:Int} (b_b:-288230376151711744≤b∧b≤288230376151711744) {w:Int} (b_w:0≤w∧w≤288230376151711744) {r f:Int} (b_f:1≤f∧f≤20) (ha:a≤v) (hb:-288230376151711744≤pf-b∧pf-b≤288230376151711744) {nq:Int} (h_nq:nq=n-q) {pb:Int} (h_pb:pb=pf-b) (h0:Ck 49 [.i v,.i q,.i n] (.i a)) (h1:Ck 49 [.i pf,.i q,.i n] (.i b)) (h2:Ck 65 [.i q,.i c,.i 1] (.tup [.i w,.i r,.i f])) :
 Ck 17 [.i 4,.i c,PoolD.av ⟨[⟨n,v,pf⟩],p0,p1,p2⟩,.i k,.i q] (.tup [PoolD.av ⟨[⟨nq,0,pb⟩],p0,p1,p2⟩,Lay.av ⟨q,v,b⟩,.c (.bool false),.i 0]):=by
 obtain⟨ρ,hρ⟩:=rh [c,q,k,n,v,pf,a,b,w,f]
 obtain rfl:=eqv hρ h_nq [([1],-1),([3],1)]
 obtain rfl:=eqv hρ h_pb [([5],1),([7],-1)]
 subst hρ
 let ev:=evS b_POut_41m [c,q,k,n,v,pf,a,b,w,f] [.int .i64 p0,.int .i64 p1,.int .i64 p2,.int .i64 r] [] BndL.nil.c.c.c.c.c.c.c.c.c.c FctL.nil.c.c.c LenL.nil (.nil)
 exact CK.way _ ev [.i 4,.v 0,(.agg [(.lit 3 [[.v 3,.v 4,.v 5]]),.o 0,.o 1,.o 2]),.v 2,.v 1] (.tup [(.agg [(.lit 3 [[(.e [([1],(-1)),([3],1)]),.i 0,(.e [([5],1),([7],(-1))])]]),.o 0,.o 1,.o 2]),(.agg [.v 1,.v 4,.v 7]),(.c (.bool false)),.i 0]) (by decide +kernel) (kc h0 (kc h1 (kc h2 kn)))
abbrev b_PTotal:Bk:={ vars:=[(0,30)],lens:=[(0,[([0],1)])],extV:=[(54,[.q 3 0],(.tup [(.agg [.o 3,.o 4,.o 5]),.i 0]))] }
theorem PTotal {L:List Lay} {p0 p1 p2:Int} (hl:L.length≤30) {t0 t1 t2:Int} (h0:Ck 54 [.lit 3 (laysR L)] (.tup [Lay.av ⟨t0,t1,t2⟩,.i 0])) :
 Ck 26 [PoolD.av ⟨L,p0,p1,p2⟩] (Lay.av ⟨t0,t1,t2⟩):=by
 let ev:=evS b_PTotal [(L.length:Int)] [.int .i64 p0,.int .i64 p1,.int .i64 p2,.int .i64 t0,.int .i64 t1,.int .i64 t2] [laysR L] BndL.nil.c FctL.nil LenL.nil.c (.nil)
 exact CK.way _ ev [(.agg [.q 3 0,.o 0,.o 1,.o 2])] (.agg [.o 3,.o 4,.o 5]) (by decide +kernel) (kc h0 kn)
end Go.Proofs.Ytjccjmmbebiegaa
