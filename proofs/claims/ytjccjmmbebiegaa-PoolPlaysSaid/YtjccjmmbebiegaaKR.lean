/-
 More value over a pool's layers, by the program; whether a pool is right; the same pool. (Printed by wip/mkw.py out of wip/src/XKR.src, wip/paths/prseg.py, ssseg.py, prw.py.)
-/
import Derived.Test.YtjccjmmbebiegaaKPool
import Derived.Test.YtjccjmmbebiegaaDu
set_option linter.unusedVariables false
set_option linter.unusedSimpArgs false
namespace Go.Proofs.Ytjccjmmbebiegaa
open Go.RowKit Mc
set_option maxRecDepth 1000000
theorem ck_fifoRight {l:List Lay} (hI:AllI (flat l)) (hn:l.length≤1000):Ck 37 [.lit 3 (laysR l)] (.c (.bool (rightL l))):=by
 refine⟨cl_cons (cl_lays _).lit cl_nil,.c _,?_⟩
 intro A w vs hA hG hl hv
 have hvs:=one_arg hl
 generalize vs.getD 0 Go.undef=v0 at hvs
 subst hvs
 obtain⟨a,cap,rfl,R⟩:=lays_in (hv 0 _ rfl) hI
 refine(fifo_Right a cap l w R hn).mono ?_
 rintro e w' ⟨rfl,h⟩
 exact⟨_,rfl,@RdL.c bk0 ev0 _ _ _,h⟩
theorem vs_pos' {l:List Lay} (h:∀x∈l,layOk x=true):0≤vs l:=by
 induction l with
 |nil=>simp[vs]
 |cons x t ih =>
  have:=layOk_iff.1 (h x (by simp));have:=ih fun y hy=>h y (by simp[hy])
  rw[vs_cons];omega
theorem ck_ptot {L:List Lay} {p0 p1 p2:Int} (h:LR L):Ck 26 [PoolD.av ⟨L,p0,p1,p2⟩] (Lay.av ⟨qs L,vs L,ps L⟩):=by
 have:=ck_poolTotal (p:=⟨L,p0,p1,p2⟩) h
 rwa[h.tot.1]at this
theorem ck_poolRight {m:Int} {L:List Lay} {p0 p1 p2:Int} (hm:1≤m∧m≤4) (h:PoolOk m L ⟨p0,p1,p2⟩):Ck 18 [.i m,PoolD.av ⟨L,p0,p1,p2⟩] (.c (.bool true)):=by
 obtain⟨lr,one,a0,b0,c0,sm,z⟩:=h
 have hl:=lr.len
 have hq:=lr.q
 have hR:=ck_fifoRight lr.all (by omega)
 rw[lr.right]at hR
 have hT:=ck_fifoTotal lr
 simp only at a0 b0 c0 sm z
 obtain⟨t0,ht0⟩:∃t0,t0=qs L:=⟨_,rfl⟩
 obtain⟨t1,ht1⟩:∃t1,t1=vs L:=⟨_,rfl⟩
 obtain⟨t2,ht2⟩:∃t2,t2=ps L:=⟨_,rfl⟩
 rw[←ht0,←ht1,←ht2]at hT
 have h0:=(qs_pos lr.ok).1
 rw[←ht0]at sm h0 hq
 rcases(by omega:m=1∨m=2∨m=3∨m=4)with rfl|rfl|rfl|rfl
 ·obtain⟨rfl,rfl,rfl⟩:p0=0∧p1=0∧p2=0:=by omega
  exact CK.way _ (evS { vars:=[(0,30),(0,288230376151711744)],lens:=[(0,[([0],1)])],extV:=[(37,[.q 3 0],(.c (.bool true))),(54,[.q 3 0],(.tup [(.agg [.v 1,.o 0,.o 1]),.i 0]))] } [(L.length:Int),t0] [.int .i64 t1,.int .i64 t2] [laysR L] BndL.nil.c.c FctL.nil LenL.nil.c .nil) [.i 1,(.agg [.q 3 0,.i 0,.i 0,.i 0])] (.c (.bool true)) (by decide +kernel) (kc hR (kc hT kn))
 ·obtain⟨rfl,rfl,rfl⟩:p0=0∧p1=0∧p2=0:=by omega
  have:L.length≤1:=by omega
  exact CK.way _ (evS { vars:=[(0,1),(0,288230376151711744)],lens:=[(0,[([0],1)])],extV:=[(37,[.q 3 0],(.c (.bool true))),(54,[.q 3 0],(.tup [(.agg [.v 1,.o 0,.o 1]),.i 0]))] } [(L.length:Int),t0] [.int .i64 t1,.int .i64 t2] [laysR L] BndL.nil.c.c FctL.nil LenL.nil.c .nil) [.i 2,(.agg [.q 3 0,.i 0,.i 0,.i 0])] (.c (.bool true)) (by decide +kernel) (kc hR (kc hT kn))
 ·have:L.length≤1:=by omega
  rcases(by omega:p0=0∨1≤p0)with q0|q0<;>rcases(by omega:p1=0∨1≤p1)with q1|q1<;>rcases(by omega:p2=0∨1≤p2)with q2|q2
  ·exact CK.way _ (evS { vars:=[(0,1),(0,288230376151711744),(0,0),(0,0),(0,0)],facts:=[([([1],1),([2],-1)],0,288230376151711744),([([1],1),([2],-1),([3],-1)],0,288230376151711744),([([1],1),([2],-1),([3],-1),([4],-1)],0,288230376151711744)],lens:=[(0,[([0],1)])],extV:=[(37,[.q 3 0],(.c (.bool true))),(54,[.q 3 0],(.tup [(.agg [.v 1,.o 0,.o 1]),.i 0]))] } [(L.length:Int),t0,p0,p1,p2] [.int .i64 t1,.int .i64 t2] [laysR L] BndL.nil.c.c.c.c.c FctL.nil.c.c.c LenL.nil.c .nil) [.i 3,(.agg [.q 3 0,.v 2,.v 3,.v 4])] (.c (.bool true)) (by decide +kernel) (kc hR (kc hT kn))
  ·exact CK.way _ (evS { vars:=[(0,1),(0,288230376151711744),(0,0),(0,0),(1,288230376151711744)],facts:=[([([1],1),([2],-1)],0,288230376151711744),([([1],1),([2],-1),([3],-1)],0,288230376151711744),([([1],1),([2],-1),([3],-1),([4],-1)],0,288230376151711744)],lens:=[(0,[([0],1)])],extV:=[(37,[.q 3 0],(.c (.bool true))),(54,[.q 3 0],(.tup [(.agg [.v 1,.o 0,.o 1]),.i 0]))] } [(L.length:Int),t0,p0,p1,p2] [.int .i64 t1,.int .i64 t2] [laysR L] BndL.nil.c.c.c.c.c FctL.nil.c.c.c LenL.nil.c .nil) [.i 3,(.agg [.q 3 0,.v 2,.v 3,.v 4])] (.c (.bool true)) (by decide +kernel) (kc hR (kc hT kn))
  ·exact CK.way _ (evS { vars:=[(0,1),(0,288230376151711744),(0,0),(1,288230376151711744),(0,0)],facts:=[([([1],1),([2],-1)],0,288230376151711744),([([1],1),([2],-1),([3],-1)],0,288230376151711744),([([1],1),([2],-1),([3],-1),([4],-1)],0,288230376151711744)],lens:=[(0,[([0],1)])],extV:=[(37,[.q 3 0],(.c (.bool true))),(54,[.q 3 0],(.tup [(.agg [.v 1,.o 0,.o 1]),.i 0]))] } [(L.length:Int),t0,p0,p1,p2] [.int .i64 t1,.int .i64 t2] [laysR L] BndL.nil.c.c.c.c.c FctL.nil.c.c.c LenL.nil.c .nil) [.i 3,(.agg [.q 3 0,.v 2,.v 3,.v 4])] (.c (.bool true)) (by decide +kernel) (kc hR (kc hT kn))
  ·exact CK.way _ (evS { vars:=[(0,1),(0,288230376151711744),(0,0),(1,288230376151711744),(1,288230376151711744)],facts:=[([([1],1),([2],-1)],0,288230376151711744),([([1],1),([2],-1),([3],-1)],0,288230376151711744),([([1],1),([2],-1),([3],-1),([4],-1)],0,288230376151711744)],lens:=[(0,[([0],1)])],extV:=[(37,[.q 3 0],(.c (.bool true))),(54,[.q 3 0],(.tup [(.agg [.v 1,.o 0,.o 1]),.i 0]))] } [(L.length:Int),t0,p0,p1,p2] [.int .i64 t1,.int .i64 t2] [laysR L] BndL.nil.c.c.c.c.c FctL.nil.c.c.c LenL.nil.c .nil) [.i 3,(.agg [.q 3 0,.v 2,.v 3,.v 4])] (.c (.bool true)) (by decide +kernel) (kc hR (kc hT kn))
  ·exact CK.way _ (evS { vars:=[(0,1),(0,288230376151711744),(1,288230376151711744),(0,0),(0,0)],facts:=[([([1],1),([2],-1)],0,288230376151711744),([([1],1),([2],-1),([3],-1)],0,288230376151711744),([([1],1),([2],-1),([3],-1),([4],-1)],0,288230376151711744)],lens:=[(0,[([0],1)])],extV:=[(37,[.q 3 0],(.c (.bool true))),(54,[.q 3 0],(.tup [(.agg [.v 1,.o 0,.o 1]),.i 0]))] } [(L.length:Int),t0,p0,p1,p2] [.int .i64 t1,.int .i64 t2] [laysR L] BndL.nil.c.c.c.c.c FctL.nil.c.c.c LenL.nil.c .nil) [.i 3,(.agg [.q 3 0,.v 2,.v 3,.v 4])] (.c (.bool true)) (by decide +kernel) (kc hR (kc hT kn))
  ·exact CK.way _ (evS { vars:=[(0,1),(0,288230376151711744),(1,288230376151711744),(0,0),(1,288230376151711744)],facts:=[([([1],1),([2],-1)],0,288230376151711744),([([1],1),([2],-1),([3],-1)],0,288230376151711744),([([1],1),([2],-1),([3],-1),([4],-1)],0,288230376151711744)],lens:=[(0,[([0],1)])],extV:=[(37,[.q 3 0],(.c (.bool true))),(54,[.q 3 0],(.tup [(.agg [.v 1,.o 0,.o 1]),.i 0]))] } [(L.length:Int),t0,p0,p1,p2] [.int .i64 t1,.int .i64 t2] [laysR L] BndL.nil.c.c.c.c.c FctL.nil.c.c.c LenL.nil.c .nil) [.i 3,(.agg [.q 3 0,.v 2,.v 3,.v 4])] (.c (.bool true)) (by decide +kernel) (kc hR (kc hT kn))
  ·exact CK.way _ (evS { vars:=[(0,1),(0,288230376151711744),(1,288230376151711744),(1,288230376151711744),(0,0)],facts:=[([([1],1),([2],-1)],0,288230376151711744),([([1],1),([2],-1),([3],-1)],0,288230376151711744),([([1],1),([2],-1),([3],-1),([4],-1)],0,288230376151711744)],lens:=[(0,[([0],1)])],extV:=[(37,[.q 3 0],(.c (.bool true))),(54,[.q 3 0],(.tup [(.agg [.v 1,.o 0,.o 1]),.i 0]))] } [(L.length:Int),t0,p0,p1,p2] [.int .i64 t1,.int .i64 t2] [laysR L] BndL.nil.c.c.c.c.c FctL.nil.c.c.c LenL.nil.c .nil) [.i 3,(.agg [.q 3 0,.v 2,.v 3,.v 4])] (.c (.bool true)) (by decide +kernel) (kc hR (kc hT kn))
  ·exact CK.way _ (evS { vars:=[(0,1),(0,288230376151711744),(1,288230376151711744),(1,288230376151711744),(1,288230376151711744)],facts:=[([([1],1),([2],-1)],0,288230376151711744),([([1],1),([2],-1),([3],-1)],0,288230376151711744),([([1],1),([2],-1),([3],-1),([4],-1)],0,288230376151711744)],lens:=[(0,[([0],1)])],extV:=[(37,[.q 3 0],(.c (.bool true))),(54,[.q 3 0],(.tup [(.agg [.v 1,.o 0,.o 1]),.i 0]))] } [(L.length:Int),t0,p0,p1,p2] [.int .i64 t1,.int .i64 t2] [laysR L] BndL.nil.c.c.c.c.c FctL.nil.c.c.c LenL.nil.c .nil) [.i 3,(.agg [.q 3 0,.v 2,.v 3,.v 4])] (.c (.bool true)) (by decide +kernel) (kc hR (kc hT kn))
 ·obtain⟨rfl,rfl,rfl⟩:p0=0∧p1=0∧p2=0:=by omega
  have:L.length≤1:=by omega
  exact CK.way _ (evS { vars:=[(0,1),(0,288230376151711744)],lens:=[(0,[([0],1)])],extV:=[(37,[.q 3 0],(.c (.bool true))),(54,[.q 3 0],(.tup [(.agg [.v 1,.o 0,.o 1]),.i 0]))] } [(L.length:Int),t0] [.int .i64 t1,.int .i64 t2] [laysR L] BndL.nil.c.c FctL.nil LenL.nil.c .nil) [.i 4,(.agg [.q 3 0,.i 0,.i 0,.i 0])] (.c (.bool true)) (by decide +kernel) (kc hR (kc hT kn))
namespace SS
abbrev ssF (l i:AV):List AV:=fr 27 [(0,l),(1,l),(5,i)]
noncomputable def body:Code:=(Try.f43).body.getD .skip
abbrev p_SSA (c:Code) (r:Option (RT Out)):Prop:=SegA { vars:=[(0,4611686018427387904)],lens:=[(0,[([0],1)])] } c ([.q 3 0,.q 3 0]++List.replicate 25 .undef) [] [] (ssF (.q 3 0) (.i 0)) [] r
noncomputable def s_SSA:Option (RT Out):=rnA { vars:=[(0,4611686018427387904)],lens:=[(0,[([0],1)])] } body ([.q 3 0,.q 3 0]++List.replicate 25 .undef:List AV).length ([.q 3 0,.q 3 0]++List.replicate 25 .undef) [] 0
theorem t_SSA:p_SSA body s_SSA:=⟨rfl,by decide +kernel,by decide +kernel⟩
abbrev p_SSR (c:Code):Prop:=SegD { vars:=[(0,4611686018427387904),(0,4611686018427387904),w64,w64,w64],facts:=[([([0],1),([1],-1)],1,4611686018427387904)],lens:=[(0,[([0],1)])],ats:=[(0,[([1],1)],[.v 2,.v 3,.v 4])] } c (ssF (.q 3 0) (.v 1)) [] 0 [] (ssF (.q 3 0) (.e [([],1),([1],1)])) []
theorem t_SSR:p_SSR (oCode s_SSA):=⟨_,rfl,by decide +kernel,by decide +kernel⟩
abbrev p_SSX (c:Code):Prop:=SegD { vars:=[(0,4611686018427387904)],lens:=[(0,[([0],1)])] } c (ssF (.q 3 0) (.v 0)) [] 2 [] (ssF (.q 3 0) (.v 0)) []
theorem t_SSX:p_SSX (oCode s_SSA):=⟨_,rfl,by decide +kernel,by decide +kernel⟩
abbrev p_SSXr (o:Option (RT Out)):Prop:=SegRR { vars:=[(0,4611686018427387904)],lens:=[(0,[([0],1)])] } Try.f43 o 0 (ssF (.q 3 0) (.v 0)) [] ((.c (.bool true)))
theorem t_SSXr:p_SSXr s_SSA:=⟨_,rfl,by decide +kernel,by decide +kernel,by kernel_rfl⟩
theorem walk (oA:Option (RT Out)) (rA:p_SSA body oA) (rR:p_SSR (oCode oA)) (rX:p_SSX (oCode oA)) (rr:p_SSXr oA) {l:List Lay} (hl:l.length≤30) (hI:∀x∈l,layOk x=true) :
  Ck 43 [.lit 3 (laysR l),.lit 3 (laysR l)] (.c (.bool true)):=by
 refine CK.of_body Try.func43 (c:=body) (by kernel_rfl) (ClL.out) (ClA.out) fun A w0 a0=>?_
 intro mm w a pr
 rw[Try.ntmps43]at pr
 refine rA.go (evS _ [(l.length:Int)] [] [laysR l] BndL.nil.c FctL.nil LenL.nil.c .nil) (xK kn) pr (fd:=ssF (.lit 3 (laysR l)) (.i 0)) (bd:=[]) ?_
 intro mm w a pr
 refine loop_rule (fun n a w=>∃j:Nat,n=l.length-j∧j≤l.length∧∃mm,@Pre bk0 ev0 A w0 a0 mm w a (ssF (.lit 3 (laysR l)) (.i (j:Int))) (hOf [])) ?_ (n:=l.length) ⟨0,rfl,Nat.zero_le _,_,pr⟩
 rintro n a w ⟨j,rfl,hj,mm,pr⟩
 rcases(by omega:j=l.length∨j<l.length)with rfl|hlt
 ·refine rX.go (evS _ [(l.length:Int)] [] [laysR l] BndL.nil.c FctL.nil LenL.nil.c .nil) (xK kn) pr ?_
  intro mm w a pr
  exact rr.go (evS _ [(l.length:Int)] [] [laysR l] BndL.nil.c FctL.nil LenL.nil.c .nil) (xK kn) pr
 ·obtain⟨x,hk0⟩:∃x,l[j]?=some x:=⟨_,List.getElem?_eq_getElem hlt⟩
  have hk:l[(j:Int).toNat]?=some x:=by simpa using hk0
  have hx:=layOk_iff.1 (hI x (List.mem_of_getElem? hk0))
  refine rR.go (evS _ [(l.length:Int),(j:Int),x.q,x.v,x.p] [] [laysR l] BndL.nil.c.c.c.c.c FctL.nil.d LenL.nil.c (.d (aY hk) .nil)) (xK kn) pr (fd:=ssF (.lit 3 (laysR l)) (.i (1+(j:Int)))) (bd:=[]) ?_
  intro mm w a pr
  rw[show(1+(j:Int))=((j+1:Nat):Int)by omega]at pr
  exact⟨_,by omega,j+1,rfl,by omega,mm,pr⟩
end SS
theorem ck_d11Same {L:List Lay} {p0 p1 p2:Int} (h:LR L) (h0:I64 p0) (h1:I64 p1) (h2:I64 p2):Ck 21 [PoolD.av ⟨L,p0,p1,p2⟩,PoolD.av ⟨L,p0,p1,p2⟩] (.c (.bool true)):=by
 have hS:=SS.walk SS.s_SSA SS.t_SSA SS.t_SSR SS.t_SSX SS.t_SSXr h.len h.ok
 have:=h0.lo;have:=h0.hi;have:=h1.lo;have:=h1.hi;have:=h2.lo;have:=h2.hi
 exact CK.way _ (evS { vars:=[w64,w64,w64],extV:=[(43,[.q 3 0,.q 3 0],(.c (.bool true)))] } [p0,p1,p2] [] [laysR L] BndL.nil.c.c.c FctL.nil LenL.nil .nil) [(.agg [.q 3 0,.v 0,.v 1,.v 2]),(.agg [.q 3 0,.v 0,.v 1,.v 2])] (.c (.bool true)) (by decide +kernel) (kc hS kn)
namespace PR
abbrev sF (m v n:Int) (k:Nat) (a y i:AV):List AV:=fr 83 [(0,.i m),(2,.i v),(4,.ptr 4 0 0 0),(6,.ptr 4 1 0 0),(7,.i 0),(8,.i n),(9,.ptr 4 3 0 0),(10,a),(11,y),(39,.own 32 3 4 0 k),(40,.i n),(41,i)]
abbrev sB (L:List Lay) (p0 p1 p2:Int) (c:List (List AV)):List Mc.Blk:=[.cells 26 4 [[.own 32 3 2 0 L.length,.i p0,.i p1,.i p2]],.cells 26 4 [[.emp,.i 0,.i 0,.i 0]],.cells 32 3 (laysR L),.cells 26 4 [[.own 32 3 4 0 L.length,.i p0,.i p1,.i p2]],.cells 32 3 c]
noncomputable def body:Code:=(Try.f24).body.getD .skip
abbrev p_PRA (c:Code) (r:Option (RT Out)):Prop:=SegA { vars:=[(1,30),(1,3),(0,288230376151711744)],lens:=[(0,[([0],1)])],extV:=[(26,[(.agg [.q 3 0,.o 0,.o 1,.o 2])],(.agg [.o 3,.o 4,.o 5]))] } c ([.v 1,(.agg [.q 3 0,.o 0,.o 1,.o 2]),.v 2]++List.replicate 80 .undef) [] [some 0,some 1,some 5,some 14,some 11] (fr 83 [(0,(.v 1)),(2,(.v 2)),(4,.ptr 4 0 0 0),(6,.ptr 4 1 0 0),(7,(.i 0)),(8,(.v 0)),(9,.ptr 4 3 0 0),(10,(.o 3)),(11,(.v 2)),(39,(.sown 32 3 4 [([0],1)])),(40,(.v 0)),(41,(.i 0))]) [(.cells 26 4 [[(.sown 32 3 2 [([0],1)]),.o 0,.o 1,.o 2]]),(.cells 26 4 [[.emp,.i 0,.i 0,.i 0]]),(.sc 32 3 0 [] [] [([0],1)]),(.cells 26 4 [[(.sown 32 3 4 [([0],1)]),.o 0,.o 1,.o 2]]),(.sc 32 3 0 [] [] [([0],1)])] r
noncomputable def s_PRA:Option (RT Out):=rnA { vars:=[(1,30),(1,3),(0,288230376151711744)],lens:=[(0,[([0],1)])],extV:=[(26,[(.agg [.q 3 0,.o 0,.o 1,.o 2])],(.agg [.o 3,.o 4,.o 5]))] } body ([.v 1,(.agg [.q 3 0,.o 0,.o 1,.o 2]),.v 2]++List.replicate 80 .undef:List AV).length ([.v 1,(.agg [.q 3 0,.o 0,.o 1,.o 2]),.v 2]++List.replicate 80 .undef) [] 0
theorem t_PRA:p_PRA body s_PRA:=⟨rfl,by decide +kernel,by decide +kernel⟩
abbrev p_PRp (c:Code):Prop:=SegD { vars:=[(1,30),(1,3),(0,288230376151711744),(0,288230376151711744),(0,288230376151711744),(0,288230376151711744),(0,29)],facts:=[([([0],1),([6],-1)],2,30),([([3],1),([5],1)],0,288230376151711744)],lens:=[(0,[([0],1)]),(1,[([0],1)])],ats:=[(1,[([6],1)],[.o 4,.v 3,.o 5])],extV:=[(49,[.v 2,.o 4,.o 3],(.v 5))] } c (fr 83 [(0,(.v 1)),(2,(.v 2)),(4,.ptr 4 0 0 0),(6,.ptr 4 1 0 0),(7,(.i 0)),(8,(.v 0)),(9,.ptr 4 3 0 0),(10,(.o 3)),(11,(.v 4)),(39,(.sown 32 3 4 [([0],1)])),(40,(.v 0)),(41,(.v 6))]) [(.cells 26 4 [[(.sown 32 3 2 [([0],1)]),.o 0,.o 1,.o 2]]),(.cells 26 4 [[.emp,.i 0,.i 0,.i 0]]),(.sc 32 3 0 [] [] [([0],1)]),(.cells 26 4 [[(.sown 32 3 4 [([0],1)]),.o 0,.o 1,.o 2]]),(.sc 32 3 1 [] [] [([0],1)])] 0 [some 0,some 1,some 2,some 3,some 4] (fr 83 [(0,(.v 1)),(2,(.v 2)),(4,.ptr 4 0 0 0),(6,.ptr 4 1 0 0),(7,(.i 0)),(8,(.v 0)),(9,.ptr 4 3 0 0),(10,(.o 3)),(11,(.e [([4],1),([5],-1)])),(39,(.sown 32 3 4 [([0],1)])),(40,(.v 0)),(41,(.e [([],1),([6],1)]))]) [(.cells 26 4 [[(.sown 32 3 2 [([0],1)]),.o 0,.o 1,.o 2]]),(.cells 26 4 [[.emp,.i 0,.i 0,.i 0]]),(.sc 32 3 0 [] [] [([0],1)]),(.cells 26 4 [[(.sown 32 3 4 [([0],1)]),.o 0,.o 1,.o 2]]),(.sc 32 3 1 [([([6],1)],[.o 4,(.e [([3],1),([5],1)]),.o 5])] [] [([0],1)])]
theorem t_PRp:p_PRp (oCode s_PRA):=⟨_,rfl,by decide +kernel,by decide +kernel⟩
abbrev p_PRl (c:Code):Prop:=SegD { vars:=[(1,30),(1,3),(0,288230376151711744),(0,288230376151711744),(0,288230376151711744),(0,29)],facts:=[([([0],1),([5],-1)],1,1),([([3],1),([4],1)],0,288230376151711744)],lens:=[(0,[([0],1)]),(1,[([0],1)])],ats:=[(1,[([5],1)],[.o 4,.v 3,.o 5])] } c (fr 83 [(0,(.v 1)),(2,(.v 2)),(4,.ptr 4 0 0 0),(6,.ptr 4 1 0 0),(7,(.i 0)),(8,(.v 0)),(9,.ptr 4 3 0 0),(10,(.o 3)),(11,(.v 4)),(39,(.sown 32 3 4 [([0],1)])),(40,(.v 0)),(41,(.v 5))]) [(.cells 26 4 [[(.sown 32 3 2 [([0],1)]),.o 0,.o 1,.o 2]]),(.cells 26 4 [[.emp,.i 0,.i 0,.i 0]]),(.sc 32 3 0 [] [] [([0],1)]),(.cells 26 4 [[(.sown 32 3 4 [([0],1)]),.o 0,.o 1,.o 2]]),(.sc 32 3 1 [] [] [([0],1)])] 0 [some 0,some 1,some 2,some 3,some 4] (fr 83 [(0,(.v 1)),(2,(.v 2)),(4,.ptr 4 0 0 0),(6,.ptr 4 1 0 0),(7,(.i 0)),(8,(.v 0)),(9,.ptr 4 3 0 0),(10,(.o 3)),(11,(.i 0)),(39,(.sown 32 3 4 [([0],1)])),(40,(.v 0)),(41,(.e [([],1),([5],1)]))]) [(.cells 26 4 [[(.sown 32 3 2 [([0],1)]),.o 0,.o 1,.o 2]]),(.cells 26 4 [[.emp,.i 0,.i 0,.i 0]]),(.sc 32 3 0 [] [] [([0],1)]),(.cells 26 4 [[(.sown 32 3 4 [([0],1)]),.o 0,.o 1,.o 2]]),(.sc 32 3 1 [([([5],1)],[.o 4,(.e [([3],1),([4],1)]),.o 5])] [] [([0],1)])]
theorem t_PRl:p_PRl (oCode s_PRA):=⟨_,rfl,by decide +kernel,by decide +kernel⟩
abbrev p_PRX (c:Code):Prop:=SegD { vars:=[(1,30),(1,3),(0,288230376151711744)],lens:=[(0,[([0],1)]),(1,[([0],1)])] } c (fr 83 [(0,(.v 1)),(2,(.v 2)),(4,.ptr 4 0 0 0),(6,.ptr 4 1 0 0),(7,(.i 0)),(8,(.v 0)),(9,.ptr 4 3 0 0),(10,(.o 3)),(11,(.o 4)),(39,(.sown 32 3 4 [([0],1)])),(40,(.v 0)),(41,(.v 0))]) [(.cells 26 4 [[(.sown 32 3 2 [([0],1)]),.o 0,.o 1,.o 2]]),(.cells 26 4 [[.emp,.i 0,.i 0,.i 0]]),(.sc 32 3 0 [] [] [([0],1)]),(.cells 26 4 [[(.sown 32 3 4 [([0],1)]),.o 0,.o 1,.o 2]]),(.sc 32 3 1 [] [] [([0],1)])] 2 [some 0,some 1,some 2,some 3,some 4] (fr 83 [(0,(.v 1)),(2,(.v 2)),(4,.ptr 4 0 0 0),(6,.ptr 4 1 0 0),(7,(.i 0)),(8,(.v 0)),(9,.ptr 4 3 0 0),(10,(.o 3)),(11,(.o 4)),(39,(.sown 32 3 4 [([0],1)])),(40,(.v 0)),(41,(.v 0))]) [(.cells 26 4 [[(.sown 32 3 2 [([0],1)]),.o 0,.o 1,.o 2]]),(.cells 26 4 [[.emp,.i 0,.i 0,.i 0]]),(.sc 32 3 0 [] [] [([0],1)]),(.cells 26 4 [[(.sown 32 3 4 [([0],1)]),.o 0,.o 1,.o 2]]),(.sc 32 3 1 [] [] [([0],1)])]
theorem t_PRX:p_PRX (oCode s_PRA):=⟨_,rfl,by decide +kernel,by decide +kernel⟩
abbrev p_PRXok (o:Option (RT Out)):Prop:=SegRR { vars:=[(1,30),(1,3),(0,288230376151711744)],lens:=[(0,[([0],1)]),(1,[([0],1)])],extV:=[(18,[.v 1,(.agg [.q 3 1,.o 0,.o 1,.o 2])],(.c (.bool true)))] } Try.f24 o 0 (fr 83 [(0,(.v 1)),(2,(.v 2)),(4,.ptr 4 0 0 0),(6,.ptr 4 1 0 0),(7,(.i 0)),(8,(.v 0)),(9,.ptr 4 3 0 0),(10,(.o 3)),(11,(.o 4)),(39,(.sown 32 3 4 [([0],1)])),(40,(.v 0)),(41,(.v 0))]) [(.cells 26 4 [[(.sown 32 3 2 [([0],1)]),.o 0,.o 1,.o 2]]),(.cells 26 4 [[.emp,.i 0,.i 0,.i 0]]),(.sc 32 3 0 [] [] [([0],1)]),(.cells 26 4 [[(.sown 32 3 4 [([0],1)]),.o 0,.o 1,.o 2]]),(.sc 32 3 1 [] [] [([0],1)])] ((.tup [(.agg [.q 3 1,.o 0,.o 1,.o 2]),.i 0]))
theorem t_PRXok:p_PRXok s_PRA:=⟨_,rfl,by decide +kernel,by decide +kernel,by kernel_rfl⟩
theorem walk (oA:Option (RT Out)) (rA:p_PRA body oA) (rp:p_PRp (oCode oA)) (rl:p_PRl (oCode oA)) (rX:p_PRX (oCode oA)) (rO:p_PRXok oA)
  {L:List Lay} {p0 p1 p2 m v:Int} (h:PoolOk m L ⟨p0,p1,p2⟩) (h1:1≤L.length) (hm:1≤m∧m≤3) (hv:0≤v∧vs L+v≤288230376151711744) :
  Ck 24 [.i m,PoolD.av ⟨L,p0,p1,p2⟩,.i v] (.tup [PoolD.av ⟨raiseGo v (qs L) v L,p0,p1,p2⟩,.i 0]):=by
 have lr:=h.lr
 have ht:=ck_ptot (p0:=p0) (p1:=p1) (p2:=p2) lr
 have hne:L≠[]:=fun e=>by subst e;simp at h1
 have hR0:=(h.raise_ (v:=v) hne hv.1 hv.2).1
 have hql:=lr.q
 have h30:=lr.len
 have hvp:=vs_pos' lr.ok
 obtain⟨t1,ht1⟩:∃t1,t1=vs L:=⟨_,rfl⟩
 obtain⟨t2,ht2⟩:∃t2,t2=ps L:=⟨_,rfl⟩
 obtain⟨t0,ht0⟩:∃t0,t0=qs L:=⟨_,rfl⟩
 rw[←ht1,←ht2,←ht0]at ht
 rw[←ht0]at hql hR0 ⊢
 rw[←ht1]at hv hvp
 have hall:1≤t0:=by
  rw[ht0]
  match L,h1,lr with
  |z::t,_,h =>
   have:=layOk_iff.1 (h.ok z (by simp))
   have:=(qs_pos (l:=t) fun x hx=>h.ok x (by simp[hx])).1
   rw[qs_cons];omega
 refine CK.of_body Try.func24 (c:=body) (by kernel_rfl) (ClL.out) (ClA.out) fun A w0 a0=>?_
 intro mm w a pr
 rw[Try.ntmps24]at pr
 refine rA.go (evS _ [(L.length:Int),m,v] [.int .i64 p0,.int .i64 p1,.int .i64 p2,.int .i64 t0,.int .i64 t1,.int .i64 t2] [laysR L] BndL.nil.c.c.c FctL.nil LenL.nil.c .nil) (xK (kc ht kn)) pr (fd:=sF m v L.length L.length (.i t0) (.i v) (.i 0)) (bd:=sB L p0 p1 p2 (laysR L)) ?_
 intro mm w a pr
 clear ht
 refine loop_rule (fun n a w=>∃(j:Nat) (left:Int) (d:List Lay),n=L.length-j∧j≤L.length∧d.length=j∧raiseGo v t0 v L=d++raiseGo v t0 left (L.drop j)∧0≤left∧left≤v∧v*qs (L.drop j)≤left*t0∧vs (L.drop j)+left≤t1+v∧∃mm,@Pre bk0 ev0 A w0 a0 mm w a (sF m v L.length L.length (.i t0) (.i left) (.i (j:Int))) (hOf (sB L p0 p1 p2 (laysR (d++L.drop j))))) ?_ (n:=L.length) ⟨0,v,[],rfl,Nat.zero_le _,rfl,rfl,hv.1,Int.le_refl _,by rw[List.drop_zero,ht0];exact Int.le_refl _,by rw[List.drop_zero,ht1];exact Int.le_refl _,_,pr⟩
 rintro n a w ⟨j,left,d,rfl,hj,hd,hR,l0,l1,hs,hvv,mm,pr⟩
 have hcl:(d++L.drop j).length=L.length:=by simp;omega
 rcases(by omega:j=L.length∨j<L.length)with rfl|hlt
 ·have hz:L.drop L.length=[]:=List.drop_length
  rw[hz]at hR hcl
  rw[hz]at pr
  simp only[raiseGo,List.append_nil]at hR hcl pr
  rw[hR]at hR0 ⊢
  generalize d=c at *
  refine rX.go (evS _ [(L.length:Int),m,v] [.int .i64 p0,.int .i64 p1,.int .i64 p2,.int .i64 t0,.int .i64 left] [laysR L,laysR c] BndL.nil.c.c.c FctL.nil LenL.nil.c.c .nil) (xK kn) pr ?_
  intro mm w a pr
  have hr:=ck_poolRight (m:=m) (by omega) hR0
  exact rO.go (evS _ [(L.length:Int),m,v] [.int .i64 p0,.int .i64 p1,.int .i64 p2,.int .i64 t0,.int .i64 left] [laysR L,laysR c] BndL.nil.c.c.c FctL.nil LenL.nil.c.c .nil) (xK (kc hr kn)) pr
 ·obtain⟨x,hx0⟩:∃x,L[j]?=some x:=⟨_,List.getElem?_eq_getElem hlt⟩
  have hdr:L.drop j=x::L.drop (j+1):=by rw[←List.getElem_cons_drop hlt];congr 1;exact Option.some.inj (by rw[←List.getElem?_eq_getElem hlt,hx0])
  have hxo:=layOk_iff.1 (lr.ok x (List.mem_of_getElem? hx0))
  have hx:(d++L.drop j)[(j:Int).toNat]?=some x:=by
   rw[Int.toNat_natCast,List.getElem?_append_right (by omega),hd,Nat.sub_self,hdr];rfl
  have hset:∀y,(laysR (d++L.drop j)).set j [.i y.q,.i y.v,.i y.p]=laysR (d++[y]++L.drop (j+1)):=fun y=>lays_set hd hdr y
  have hrest:=fun(z:Lay) (hz:z∈L.drop (j+1))=>lr.ok z (List.mem_of_mem_drop hz)
  have hqr:=(qs_pos hrest).1
  have hvr:=vs_pos' hrest
  rw[hdr,qs_cons]at hs
  rw[hdr,vs_cons]at hvv
  generalize hc:d++L.drop j=c at *
  rcases(by omega:j+1=L.length∨j+1<L.length)with hlast|hmore
  ·refine rl.go (evS _ [(L.length:Int),m,v,x.v,left,(j:Int)] [.int .i64 p0,.int .i64 p1,.int .i64 p2,.int .i64 t0,.int .i64 x.q,.int .i64 x.p] [laysR L,laysR c] BndL.nil.c.c.c.c.c.c FctL.nil.d.d LenL.nil.c.c (.d (aY hx) .nil)) (xK kn) pr (fd:=sF m v L.length L.length (.i t0) (.i 0) (.i (1+(j:Int)))) (bd:=sB L p0 p1 p2 ((laysR c).set j [.i x.q,.i (x.v+left),.i x.p])) ?_
   intro mm w a pr
   have hz:L.drop (j+1)=[]:=List.drop_eq_nil_iff.2 (by omega)
   refine⟨L.length-(j+1),by omega,j+1,0,d++[⟨x.q,x.v+left,x.p⟩],rfl,by omega,by simp;omega,?_,Int.le_refl _,hv.1,?_,?_,mm,?_⟩
   ·rw[hR,hdr,hz];simp[raiseGo]
   ·rw[hz];simp[qs]
   ·rw[hz];simp[vs];omega
   ·rw[show(1+(j:Int))=((j+1:Nat):Int)by omega]at pr
    rw[←hset ⟨x.q,x.v+left,x.p⟩]
    exact pr
  ·have hk:=ck_Part (v:=v) (q:=x.q) (n:=t0) ⟨by omega,by omega⟩ ⟨by omega,by omega⟩ ⟨by omega,by omega⟩
   have hqt:x.q≤t0:=by rw[ht0];exact qs_mem lr (List.mem_of_getElem? hx0)
   obtain⟨k0,k1⟩:=part_share hv.1 (by omega) (q:=x.q) (by omega) hqt hall
   obtain⟨y,r,hyr⟩:∃y r,L.drop (j+1)=y::r:=by
    cases hq:L.drop (j+1)with
    |nil=>have:=List.drop_eq_nil_iff.1 hq;omega
    |cons y r=>exact⟨y,r,rfl⟩
   have hR2:raiseGo v t0 left (x::L.drop (j+1))=⟨x.q,x.v+partS v x.q t0,x.p⟩::raiseGo v t0 (left-partS v x.q t0) (L.drop (j+1)):=by rw[hyr];rfl
   rw[hdr,hR2]at hR
   generalize partS v x.q t0=k at *
   have e1:v*(x.q+qs (L.drop (j+1)))=v*x.q+v*qs (L.drop (j+1)):=Int.mul_add _ _ _
   have e2:(left-k)*t0=left*t0-k*t0:=Int.sub_mul _ _ _
   have e3:0≤v*qs (L.drop (j+1)):=Int.mul_nonneg hv.1 hqr
   have e4:0≤left-k:=by
    have:0≤(left-k)*t0:=by omega
    exact Int.nonneg_of_mul_nonneg_left this (by omega)
   refine rp.go (evS _ [(L.length:Int),m,v,x.v,left,k,(j:Int)] [.int .i64 p0,.int .i64 p1,.int .i64 p2,.int .i64 t0,.int .i64 x.q,.int .i64 x.p] [laysR L,laysR c] BndL.nil.c.c.c.c.c.c.c FctL.nil.d.d LenL.nil.c.c (.d (aY hx) .nil)) (xK (kc hk kn)) pr (fd:=sF m v L.length L.length (.i t0) (.i (left-k)) (.i (1+(j:Int)))) (bd:=sB L p0 p1 p2 ((laysR c).set j [.i x.q,.i (x.v+k),.i x.p])) ?_
   intro mm w a pr
   refine⟨L.length-(j+1),by omega,j+1,left-k,d++[⟨x.q,x.v+k,x.p⟩],rfl,by omega,by simp;omega,?_,e4,by omega,by omega,by omega,mm,?_⟩
   ·rw[hR];simp
   ·rw[show(1+(j:Int))=((j+1:Nat):Int)by omega]at pr
    rw[←hset ⟨x.q,x.v+k,x.p⟩]
    exact pr
end PR
theorem ck_poolRaise {L:List Lay} {p0 p1 p2 m v:Int} (h:PoolOk m L ⟨p0,p1,p2⟩) (hm:1≤m∧m≤4) (hv:0≤v∧vs L+v≤288230376151711744):Ck 24 [.i m,PoolD.av ⟨L,p0,p1,p2⟩,.i v]
  (.tup [PoolD.av ⟨if m=4 then L else raiseGo v (qs L) v L,p0,p1,p2⟩,.i (if m=4 then 1 else if L.length=0 then 5 else 0)]):=by
 have hl:=h.lr.len
 have hvp:=vs_pos' h.lr.ok
 by_cases h4:m=4
 ·subst h4
  exact CK.way _ (evS { vars:=[(0,30),(0,288230376151711744)],lens:=[(0,[([0],1)])] } [(L.length:Int),v] [.int .i64 p0,.int .i64 p1,.int .i64 p2] [laysR L] BndL.nil.c.c FctL.nil LenL.nil.c .nil) [.i 4,(.agg [.q 3 0,.o 0,.o 1,.o 2]),.v 1] (.tup [(.agg [.q 3 0,.o 0,.o 1,.o 2]),.i 1]) (by decide +kernel) kn
 rw[if_neg h4,if_neg h4]
 by_cases h0:L.length=0
 ·rw[if_pos h0]
  obtain rfl:=List.length_eq_zero_iff.1 h0
  show Ck _ _ (.tup [PoolD.av ⟨[],p0,p1,p2⟩,.i 5])
  generalize hL:([]:List Lay)=L at *
  have h0:L.length=0:=by rw[←hL];rfl
  exact CK.way _ (evS { vars:=[(0,0),(1,3),(0,288230376151711744)],lens:=[(0,[([0],1)])] } [(L.length:Int),m,v] [.int .i64 p0,.int .i64 p1,.int .i64 p2] [laysR L] BndL.nil.c.c.c FctL.nil LenL.nil.c .nil) [.v 1,(.agg [.q 3 0,.o 0,.o 1,.o 2]),.v 2] (.tup [(.agg [.q 3 0,.o 0,.o 1,.o 2]),.i 5]) (by decide +kernel) kn
 rw[if_neg h0]
 exact PR.walk PR.s_PRA PR.t_PRA PR.t_PRp PR.t_PRl PR.t_PRX PR.t_PRXok h (by omega) (by omega) hv
theorem ck_d13Raise' {L:List Lay} {p0 p1 p2 m v:Int} (h:PoolOk m L ⟨p0,p1,p2⟩) (hm:1≤m∧m≤4) (hv:0≤v∧vs L+v≤288230376151711744):Ck 25 [.i m,PoolD.av ⟨L,p0,p1,p2⟩,.i v]
  (.tup [PoolD.av ⟨if m=4 then L else raiseGo v (qs L) v L,p0,p1,p2⟩,.i (if m=4 then 1 else if L.length=0 then 5 else 0)]):=by
 have hl:=h.lr.len
 have hvp:=vs_pos' h.lr.ok
 by_cases h4:m=4
 ·subst h4
  exact CK.way _ (evS { vars:=[(0,30),(0,288230376151711744)],lens:=[(0,[([0],1)])] } [(L.length:Int),v] [.int .i64 p0,.int .i64 p1,.int .i64 p2] [laysR L] BndL.nil.c.c FctL.nil LenL.nil.c .nil) [.i 4,(.agg [.q 3 0,.o 0,.o 1,.o 2]),.v 1] (.tup [(.agg [.q 3 0,.o 0,.o 1,.o 2]),.i 1]) (by decide +kernel) kn
 rw[if_neg h4,if_neg h4]
 have W:=ck_d13Raise (p0:=p0) (p1:=p1) (p2:=p2) h.lr (m:=m) (v:=v) (by omega) ⟨hv.1,by omega⟩
 unfold raiseL at W
 by_cases h0:L.length=0
 ·simp only[if_pos h0]at W ⊢
  obtain rfl:=List.length_eq_zero_iff.1 h0
  exact W
 have hne:L≠[]:=fun e=>by subst e;simp at h0
 have hR:=(h.raise_ (v:=v) hne hv.1 hv.2).1.lr.right
 rw[if_neg h0,if_neg (by omega),if_pos hR]at W
 rw[if_neg h0]
 exact W
end Go.Proofs.Ytjccjmmbebiegaa
