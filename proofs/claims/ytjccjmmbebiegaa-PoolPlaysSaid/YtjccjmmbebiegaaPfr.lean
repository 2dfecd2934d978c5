/-
 pavg.Free: its two loops. (Printed by wip/mklaw.py out of wip/paths/frlaw.py.)
-/
import Derived.Test.YtjccjmmbebiegaaZ
set_option linter.unusedVariables false
set_option linter.unusedSimpArgs false
namespace Go.Proofs.Ytjccjmmbebiegaa
open Go.RowKit Mc
theorem frLaysAt {z:List Lay} {k:Nat} {x:Lay} (h:z[k]?=some x):(laysR z)[k]?=some [.i x.q,.i x.v,.i x.p]:=by
 rw[laysR,List.getElem?_map,h];rfl
namespace Fr
def headF (L:List Lay) (n i:Int):List AV:=[.junk,.ptr 4 0 0 0,.c (.int .i64 0),.i n,.junk,.junk,.junk,.junk,.junk,.lit 3 (laysR L),.i (L.length:Int),.i i]++List.replicate 18 .junk
def headB (r:List AV):List Mc.Blk:=[.cells 26 4 [r]]
def head2 (n p0 p1 p2 i:Int):List AV:=[.junk,.junk,.c (.int .i64 0),.i n]++List.replicate 17 .junk++[.agg [.i p0,.i p1,.i p2],.i i]++List.replicate 7 .junk
noncomputable def body:Code:=(Try.f12).body.getD .skip
set_option maxRecDepth 1000000
abbrev b_A:Bk:={ vars:=[(0,30)],lens:=[(0,[([0],1)])] }
def fi_A:List AV:=[(.agg [.q 3 0,.o 0,.o 1,.o 2])]++List.replicate 29 .undef
def bi_A:List Mc.Blk:=[]
noncomputable def s_A:Option (RT Out):=rnA b_A body 30 fi_A bi_A 0
theorem end_A:stopB s_A=true:=by decide +kernel
def fo_A:List AV:=[.junk,(.ptr 4 0 0 0),.i 0,.i 0,.junk,.junk,.junk,.junk,.junk,.q 3 0,.v 0,.i 0]++List.replicate 18 .junk
def bo_A:List Mc.Blk:=[.cells 26 4 [[.q 3 0,.o 0,.o 1,.o 2]]]
theorem look_A:lK [some 0] s_A fo_A bo_A=true:=by decide +kernel
set_option maxHeartbeats 2000000 in
theorem go_A (cOde:Code) (o:Option (RT Out)) (ho:rnA b_A cOde 30 fi_A bi_A 0=o) (hs:stopB o=true) (hk:lK [some 0] o fo_A bo_A=true) {L:List Lay} {p0 p1 p2:Int} (hL:L.length≤30) {A:Nat→Prop} {w0:World} {a0:Act} {mm:Nat→St} {w:World} {a:Act} {Φ:Post} (pr:@Pre bk0 ev0 A w0 a0 mm w a ([PoolD.av ⟨L,p0,p1,p2⟩]++List.replicate 29 .undef) (hOf ([]))) (kk:∀mm w a,@Pre bk0 ev0 A w0 a0 mm w a (headF L 0 0) (hOf (headB [.lit 3 (laysR L),.i p0,.i p1,.i p2]))→(Code.loop (oCode o)).wpIn (fw none) 9 Try.prog (KS Try.prog (oK o) Φ) a w):cOde.wpIn (fw none) 9 Try.prog Φ a w:=by
 let ev:=evS b_A [(L.length:Int)] [.int .i64 p0,.int .i64 p1,.int .i64 p2] [laysR L] BndL.nil.c FctL.nil LenL.nil.c (.nil)
 have hX:@ExtOk b_A ev Try.prog:=⟨exNil b_A ev,yeNil b_A ev,kn⟩
 obtain⟨m1,pr⟩:=pre_in _ ev (f:=fi_A) (bs:=bi_A) pr rfl rfl rfl
 refine run_stop _ ev hX (L:=100000) (d:=60) (k:=100) (N:=30) (n:=0) o ho hs (by decide) pr ?_
 intro mm w a pr
 obtain⟨m2,pr⟩:=shorter _ ev pr hk rfl
 obtain⟨m3,pr⟩:=pre_out _ ev pr rfl
 exact kk _ _ _ pr
abbrev b_R:Bk:={ vars:=[(0,30),(-4000000000000000000,3000000000000000000),(0,29),(0,288230376151711744)],facts:=[([([0],1),([2],-1)],1,30)],lens:=[(0,[([0],1)])],ats:=[(0,[([2],1)],[.v 3,.o 3,.o 4])] }
def fi_R:List AV:=[.junk,(.ptr 4 0 0 0),.i 0,.v 1,.junk,.junk,.junk,.junk,.junk,.q 3 0,.v 0,.v 2]++List.replicate 18 .junk
def bi_R:List Mc.Blk:=[.cells 26 4 [[.q 3 0,.o 0,.o 1,.o 2]]]
noncomputable def s_R:Option (RT Out):=rnA b_R (oCode s_A) 30 fi_R bi_R 1
theorem end_R:doneB s_R 0=true:=by decide +kernel
def fo_R:List AV:=[.junk,(.ptr 4 0 0 0),.i 0,(.e [([1],1),([3],1)]),.junk,.junk,.junk,.junk,.junk,.q 3 0,.v 0,(.e [([],1),([2],1)])]++List.replicate 18 .junk
def bo_R:List Mc.Blk:=[.cells 26 4 [[.q 3 0,.o 0,.o 1,.o 2]]]
theorem look_R:lK [some 0] s_R fo_R bo_R=true:=by decide +kernel
set_option maxHeartbeats 2000000 in
theorem go_R (cOde:Code) (o:Option (RT Out)) (ho:rnA b_R cOde 30 fi_R bi_R 1=o) (hs:doneB o 0=true) (hk:lK [some 0] o fo_R bo_R=true) {L:List Lay} {p0 p1 p2 n ix:Int} (hL:L.length≤30) (hn:-4000000000000000000≤n∧n≤4000000000000000000) {q v p:Int} (hq:0≤q∧q≤288230376151711744) (hn':n≤3000000000000000000) (hi:0≤ix) (hil:ix<L.length) (hx:L[ix.toNat]?=some ⟨q,v,p⟩) {n2:Int} (h_n2:n2=n+q) {i2:Int} (h_i2:i2=1+ix) {A:Nat→Prop} {w0:World} {a0:Act} {mm:Nat→St} {w:World} {a:Act} {Φ:Post} (pr:@Pre bk0 ev0 A w0 a0 mm w a (headF L n ix) (hOf (headB [.lit 3 (laysR L),.i p0,.i p1,.i p2]))) (kk:∀mm w a,@Pre bk0 ev0 A w0 a0 mm w a (headF L n2 i2) (hOf (headB [.lit 3 (laysR L),.i p0,.i p1,.i p2]))→Φ (xOf 0).to a w):cOde.wpIn (fw none) 9 Try.prog Φ a w:=by
 obtain⟨ρ,hρ⟩:=rh [(L.length:Int),n,ix,q]
 obtain rfl:=eqv hρ h_n2 [([1],1),([3],1)]
 obtain rfl:=eqv hρ h_i2 [([],1),([2],1)]
 subst hρ
 let ev:=evS b_R [(L.length:Int),n,ix,q] [.int .i64 p0,.int .i64 p1,.int .i64 p2,.int .i64 v,.int .i64 p] [laysR L] BndL.nil.c.c.c.c FctL.nil.c LenL.nil.c (.d (at_eq (pv_get _ _) (frLaysAt hx)) .nil)
 have hX:@ExtOk b_R ev Try.prog:=⟨exNil b_R ev,yeNil b_R ev,kn⟩
 obtain⟨m1,pr⟩:=pre_in _ ev (f:=fi_R) (bs:=bi_R) pr rfl rfl rfl
 refine run_done _ ev hX (L:=100000) (d:=60) (k:=100) (N:=30) (n:=1) o ho hs (by decide) pr ?_
 intro mm w a pr
 obtain⟨m2,pr⟩:=shorter _ ev pr hk rfl
 obtain⟨m3,pr⟩:=pre_out _ ev pr rfl
 exact kk _ _ _ pr
abbrev b_X:Bk:={ vars:=[(0,30),(-4000000000000000000,4000000000000000000),(0,30)],facts:=[([([0],1),([2],-1)],0,0)],lens:=[(0,[([0],1)])] }
def fi_X:List AV:=[.junk,(.ptr 4 0 0 0),.i 0,.v 1,.junk,.junk,.junk,.junk,.junk,.q 3 0,.v 0,.v 2]++List.replicate 18 .junk
def bi_X:List Mc.Blk:=[.cells 26 4 [[.q 3 0,.o 0,.o 1,.o 2]]]
noncomputable def s_X:Option (RT Out):=rnA b_X (oCode s_A) 30 fi_X bi_X 1
theorem end_X:doneB s_X 2=true:=by decide +kernel
def fo_X:List AV:=[.junk,(.ptr 4 0 0 0),.i 0,.v 1,.junk,.junk,.junk,.junk,.junk,.q 3 0,.v 0,.v 2]++List.replicate 18 .junk
def bo_X:List Mc.Blk:=[.cells 26 4 [[.q 3 0,.o 0,.o 1,.o 2]]]
theorem look_X:lK [some 0] s_X fo_X bo_X=true:=by decide +kernel
set_option maxHeartbeats 2000000 in
theorem go_X (cOde:Code) (o:Option (RT Out)) (ho:rnA b_X cOde 30 fi_X bi_X 1=o) (hs:doneB o 2=true) (hk:lK [some 0] o fo_X bo_X=true) {L:List Lay} {p0 p1 p2 n ix:Int} (hL:L.length≤30) (hn:-4000000000000000000≤n∧n≤4000000000000000000) (a0:B60 p0) (a1:B60 p1) (a2:B60 p2) (hi:ix=L.length) {A:Nat→Prop} {w0:World} {a0:Act} {mm:Nat→St} {w:World} {a:Act} {Φ:Post} (pr:@Pre bk0 ev0 A w0 a0 mm w a (headF L n ix) (hOf (headB [.lit 3 (laysR L),.i p0,.i p1,.i p2]))) (kk:∀mm w a,@Pre bk0 ev0 A w0 a0 mm w a (headF L n ix) (hOf (headB [.lit 3 (laysR L),.i p0,.i p1,.i p2]))→Φ (xOf 2).to a w):cOde.wpIn (fw none) 9 Try.prog Φ a w:=by
 let ev:=evS b_X [(L.length:Int),n,ix] [.int .i64 p0,.int .i64 p1,.int .i64 p2] [laysR L] BndL.nil.c.c.c FctL.nil.c LenL.nil.c (.nil)
 have hX:@ExtOk b_X ev Try.prog:=⟨exNil b_X ev,yeNil b_X ev,kn⟩
 obtain⟨m1,pr⟩:=pre_in _ ev (f:=fi_X) (bs:=bi_X) pr rfl rfl rfl
 refine run_done _ ev hX (L:=100000) (d:=60) (k:=100) (N:=30) (n:=1) o ho hs (by decide) pr ?_
 intro mm w a pr
 obtain⟨m2,pr⟩:=shorter _ ev pr hk rfl
 obtain⟨m3,pr⟩:=pre_out _ ev pr rfl
 exact kk _ _ _ pr
abbrev b_Xr:Bk:={ vars:=[(0,30),(-4000000000000000000,4000000000000000000),(0,30)],facts:=[([([0],1),([2],-1)],0,0)],lens:=[(0,[([0],1)])] }
def fi_Xr:List AV:=[.junk,(.ptr 4 0 0 0),.i 0,.v 1,.junk,.junk,.junk,.junk,.junk,.q 3 0,.v 0,.v 2]++List.replicate 18 .junk
def bi_Xr:List Mc.Blk:=[.cells 26 4 [[.q 3 0,.o 0,.o 1,.o 2]]]
noncomputable def s_Xr:Option (RT Out):=rsA b_Xr s_A 0 30 fi_Xr bi_Xr 1
theorem end_Xr:stopB s_Xr=true:=by decide +kernel
def fo_Xr:List AV:=[.junk,.junk,.i 0,.v 1,.junk,.junk,.junk,.junk,.junk,.junk,.junk,.junk,.junk,.junk,.junk,.junk,.junk,.junk,.junk,.junk,.junk,(.agg [.o 0,.o 1,.o 2]),.i 0]++List.replicate 7 .junk
def bo_Xr:List Mc.Blk:=[]
theorem look_Xr:lK [] s_Xr fo_Xr bo_Xr=true:=by decide +kernel
set_option maxHeartbeats 2000000 in
theorem go_Xr (oA:Option (RT Out)) (o:Option (RT Out)) (ho:rsA b_Xr oA 0 30 fi_Xr bi_Xr 1=o) (hs:stopB o=true) (hk:lK [] o fo_Xr bo_Xr=true) {L:List Lay} {p0 p1 p2 n ix:Int} (hL:L.length≤30) (hn:-4000000000000000000≤n∧n≤4000000000000000000) (a0:B60 p0) (a1:B60 p1) (a2:B60 p2) (hi:ix=L.length) {A:Nat→Prop} {w0:World} {a0:Act} {mm:Nat→St} {w:World} {a:Act} {Φ:Post} (pr:@Pre bk0 ev0 A w0 a0 mm w a (headF L n ix) (hOf (headB [.lit 3 (laysR L),.i p0,.i p1,.i p2]))) (kk:∀mm w a,@Pre bk0 ev0 A w0 a0 mm w a (head2 n p0 p1 p2 0) (hOf ([]))→(Code.loop (oCode o)).wpIn (fw none) 9 Try.prog (KS Try.prog (oK o) Φ) a w):KS Try.prog (oK oA) Φ (AX.exit 0).to a w:=by
 let ev:=evS b_Xr [(L.length:Int),n,ix] [.int .i64 p0,.int .i64 p1,.int .i64 p2] [laysR L] BndL.nil.c.c.c FctL.nil.c LenL.nil.c (.nil)
 have hX:@ExtOk b_Xr ev Try.prog:=⟨exNil b_Xr ev,yeNil b_Xr ev,kn⟩
 obtain⟨m1,pr⟩:=pre_in _ ev (f:=fi_Xr) (bs:=bi_Xr) pr rfl rfl rfl
 refine res_stop _ ev hX (L:=100000) (d:=60) (N:=30) (n:=1) o ho hs (by decide) pr ?_
 intro mm w a pr
 obtain⟨m2,pr⟩:=shorter _ ev pr hk rfl
 obtain⟨m3,pr⟩:=pre_out _ ev pr rfl
 exact kk _ _ _ pr
abbrev b_S0:Bk:={ vars:=[(-4000000000000000000,4000000000000000000),w60,w60,w60] }
def fi_S0:List AV:=[.junk,.junk,.i 0,.v 0,.junk,.junk,.junk,.junk,.junk,.junk,.junk,.junk,.junk,.junk,.junk,.junk,.junk,.junk,.junk,.junk,.junk,(.agg [.v 1,.v 2,.v 3]),.i 0]++List.replicate 7 .junk
def bi_S0:List Mc.Blk:=[]
noncomputable def s_S0:Option (RT Out):=rnA b_S0 (oCode s_Xr) 30 fi_S0 bi_S0 0
theorem end_S0:doneB s_S0 0=true:=by decide +kernel
def fo_S0:List AV:=[.junk,.junk,.i 0,(.e [([0],1),([1],-1)]),.junk,.junk,.junk,.junk,.junk,.junk,.junk,.junk,.junk,.junk,.junk,.junk,.junk,.junk,.junk,.junk,.junk,(.agg [.v 1,.v 2,.v 3]),.i 1]++List.replicate 7 .junk
def bo_S0:List Mc.Blk:=[]
theorem look_S0:lK [] s_S0 fo_S0 bo_S0=true:=by decide +kernel
set_option maxHeartbeats 2000000 in
theorem go_S0 (cOde:Code) (o:Option (RT Out)) (ho:rnA b_S0 cOde 30 fi_S0 bi_S0 0=o) (hs:doneB o 0=true) (hk:lK [] o fo_S0 bo_S0=true) {p0 p1 p2 n:Int} (hn:-4000000000000000000≤n∧n≤4000000000000000000) (a0:B60 p0) (a1:B60 p1) (a2:B60 p2) {n2:Int} (h_n2:n2=n-p0) {A:Nat→Prop} {w0:World} {a0:Act} {mm:Nat→St} {w:World} {a:Act} {Φ:Post} (pr:@Pre bk0 ev0 A w0 a0 mm w a (head2 n p0 p1 p2 0) (hOf ([]))) (kk:∀mm w a,@Pre bk0 ev0 A w0 a0 mm w a (head2 n2 p0 p1 p2 1) (hOf ([]))→Φ (xOf 0).to a w):cOde.wpIn (fw none) 9 Try.prog Φ a w:=by
 obtain⟨ρ,hρ⟩:=rh [n,p0,p1,p2]
 obtain rfl:=eqv hρ h_n2 [([0],1),([1],-1)]
 subst hρ
 let ev:=evS b_S0 [n,p0,p1,p2] [] [] BndL.nil.c.c.c.c FctL.nil LenL.nil (.nil)
 have hX:@ExtOk b_S0 ev Try.prog:=⟨exNil b_S0 ev,yeNil b_S0 ev,kn⟩
 obtain⟨m1,pr⟩:=pre_in _ ev (f:=fi_S0) (bs:=bi_S0) pr rfl rfl rfl
 refine run_done _ ev hX (L:=100000) (d:=60) (k:=100) (N:=30) (n:=0) o ho hs (by decide) pr ?_
 intro mm w a pr
 obtain⟨m2,pr⟩:=shorter _ ev pr hk rfl
 obtain⟨m3,pr⟩:=pre_out _ ev pr rfl
 exact kk _ _ _ pr
abbrev b_S1:Bk:={ vars:=[(-4000000000000000000,4000000000000000000),w60,w60,w60] }
def fi_S1:List AV:=[.junk,.junk,.i 0,.v 0,.junk,.junk,.junk,.junk,.junk,.junk,.junk,.junk,.junk,.junk,.junk,.junk,.junk,.junk,.junk,.junk,.junk,(.agg [.v 1,.v 2,.v 3]),.i 1]++List.replicate 7 .junk
def bi_S1:List Mc.Blk:=[]
noncomputable def s_S1:Option (RT Out):=rnA b_S1 (oCode s_Xr) 30 fi_S1 bi_S1 0
theorem end_S1:doneB s_S1 0=true:=by decide +kernel
def fo_S1:List AV:=[.junk,.junk,.i 0,(.e [([0],1),([2],-1)]),.junk,.junk,.junk,.junk,.junk,.junk,.junk,.junk,.junk,.junk,.junk,.junk,.junk,.junk,.junk,.junk,.junk,(.agg [.v 1,.v 2,.v 3]),.i 2]++List.replicate 7 .junk
def bo_S1:List Mc.Blk:=[]
theorem look_S1:lK [] s_S1 fo_S1 bo_S1=true:=by decide +kernel
set_option maxHeartbeats 2000000 in
theorem go_S1 (cOde:Code) (o:Option (RT Out)) (ho:rnA b_S1 cOde 30 fi_S1 bi_S1 0=o) (hs:doneB o 0=true) (hk:lK [] o fo_S1 bo_S1=true) {p0 p1 p2 n:Int} (hn:-4000000000000000000≤n∧n≤4000000000000000000) (a0:B60 p0) (a1:B60 p1) (a2:B60 p2) {n2:Int} (h_n2:n2=n-p1) {A:Nat→Prop} {w0:World} {a0:Act} {mm:Nat→St} {w:World} {a:Act} {Φ:Post} (pr:@Pre bk0 ev0 A w0 a0 mm w a (head2 n p0 p1 p2 1) (hOf ([]))) (kk:∀mm w a,@Pre bk0 ev0 A w0 a0 mm w a (head2 n2 p0 p1 p2 2) (hOf ([]))→Φ (xOf 0).to a w):cOde.wpIn (fw none) 9 Try.prog Φ a w:=by
 obtain⟨ρ,hρ⟩:=rh [n,p0,p1,p2]
 obtain rfl:=eqv hρ h_n2 [([0],1),([2],-1)]
 subst hρ
 let ev:=evS b_S1 [n,p0,p1,p2] [] [] BndL.nil.c.c.c.c FctL.nil LenL.nil (.nil)
 have hX:@ExtOk b_S1 ev Try.prog:=⟨exNil b_S1 ev,yeNil b_S1 ev,kn⟩
 obtain⟨m1,pr⟩:=pre_in _ ev (f:=fi_S1) (bs:=bi_S1) pr rfl rfl rfl
 refine run_done _ ev hX (L:=100000) (d:=60) (k:=100) (N:=30) (n:=0) o ho hs (by decide) pr ?_
 intro mm w a pr
 obtain⟨m2,pr⟩:=shorter _ ev pr hk rfl
 obtain⟨m3,pr⟩:=pre_out _ ev pr rfl
 exact kk _ _ _ pr
abbrev b_S2:Bk:={ vars:=[(-4000000000000000000,4000000000000000000),w60,w60,w60] }
def fi_S2:List AV:=[.junk,.junk,.i 0,.v 0,.junk,.junk,.junk,.junk,.junk,.junk,.junk,.junk,.junk,.junk,.junk,.junk,.junk,.junk,.junk,.junk,.junk,(.agg [.v 1,.v 2,.v 3]),.i 2]++List.replicate 7 .junk
def bi_S2:List Mc.Blk:=[]
noncomputable def s_S2:Option (RT Out):=rnA b_S2 (oCode s_Xr) 30 fi_S2 bi_S2 0
theorem end_S2:doneB s_S2 0=true:=by decide +kernel
def fo_S2:List AV:=[.junk,.junk,.i 0,(.e [([0],1),([3],-1)]),.junk,.junk,.junk,.junk,.junk,.junk,.junk,.junk,.junk,.junk,.junk,.junk,.junk,.junk,.junk,.junk,.junk,(.agg [.v 1,.v 2,.v 3]),.i 3]++List.replicate 7 .junk
def bo_S2:List Mc.Blk:=[]
theorem look_S2:lK [] s_S2 fo_S2 bo_S2=true:=by decide +kernel
set_option maxHeartbeats 2000000 in
theorem go_S2 (cOde:Code) (o:Option (RT Out)) (ho:rnA b_S2 cOde 30 fi_S2 bi_S2 0=o) (hs:doneB o 0=true) (hk:lK [] o fo_S2 bo_S2=true) {p0 p1 p2 n:Int} (hn:-4000000000000000000≤n∧n≤4000000000000000000) (a0:B60 p0) (a1:B60 p1) (a2:B60 p2) {n2:Int} (h_n2:n2=n-p2) {A:Nat→Prop} {w0:World} {a0:Act} {mm:Nat→St} {w:World} {a:Act} {Φ:Post} (pr:@Pre bk0 ev0 A w0 a0 mm w a (head2 n p0 p1 p2 2) (hOf ([]))) (kk:∀mm w a,@Pre bk0 ev0 A w0 a0 mm w a (head2 n2 p0 p1 p2 3) (hOf ([]))→Φ (xOf 0).to a w):cOde.wpIn (fw none) 9 Try.prog Φ a w:=by
 obtain⟨ρ,hρ⟩:=rh [n,p0,p1,p2]
 obtain rfl:=eqv hρ h_n2 [([0],1),([3],-1)]
 subst hρ
 let ev:=evS b_S2 [n,p0,p1,p2] [] [] BndL.nil.c.c.c.c FctL.nil LenL.nil (.nil)
 have hX:@ExtOk b_S2 ev Try.prog:=⟨exNil b_S2 ev,yeNil b_S2 ev,kn⟩
 obtain⟨m1,pr⟩:=pre_in _ ev (f:=fi_S2) (bs:=bi_S2) pr rfl rfl rfl
 refine run_done _ ev hX (L:=100000) (d:=60) (k:=100) (N:=30) (n:=0) o ho hs (by decide) pr ?_
 intro mm w a pr
 obtain⟨m2,pr⟩:=shorter _ ev pr hk rfl
 obtain⟨m3,pr⟩:=pre_out _ ev pr rfl
 exact kk _ _ _ pr
abbrev b_Y:Bk:={ vars:=[(-4000000000000000000,4000000000000000000),w60,w60,w60] }
def fi_Y:List AV:=[.junk,.junk,.i 0,.v 0,.junk,.junk,.junk,.junk,.junk,.junk,.junk,.junk,.junk,.junk,.junk,.junk,.junk,.junk,.junk,.junk,.junk,(.agg [.v 1,.v 2,.v 3]),.i 3]++List.replicate 7 .junk
def bi_Y:List Mc.Blk:=[]
noncomputable def s_Y:Option (RT Out):=rnA b_Y (oCode s_Xr) 30 fi_Y bi_Y 0
theorem end_Y:doneB s_Y 4=true:=by decide +kernel
def fo_Y:List AV:=[.junk,.junk,.i 0,.v 0,.junk,.junk,.junk,.junk,.junk,.junk,.junk,.junk,.junk,.junk,.junk,.junk,.junk,.junk,.junk,.junk,.junk,(.agg [.v 1,.v 2,.v 3]),.i 3]++List.replicate 7 .junk
def bo_Y:List Mc.Blk:=[]
theorem look_Y:lK [] s_Y fo_Y bo_Y=true:=by decide +kernel
set_option maxHeartbeats 2000000 in
theorem go_Y (cOde:Code) (o:Option (RT Out)) (ho:rnA b_Y cOde 30 fi_Y bi_Y 0=o) (hs:doneB o 4=true) (hk:lK [] o fo_Y bo_Y=true) {p0 p1 p2 n:Int} (hn:-4000000000000000000≤n∧n≤4000000000000000000) (a0:B60 p0) (a1:B60 p1) (a2:B60 p2) {A:Nat→Prop} {w0:World} {a0:Act} {mm:Nat→St} {w:World} {a:Act} {Φ:Post} (pr:@Pre bk0 ev0 A w0 a0 mm w a (head2 n p0 p1 p2 3) (hOf ([]))) (kk:∀mm w a,@Pre bk0 ev0 A w0 a0 mm w a (head2 n p0 p1 p2 3) (hOf ([]))→Φ (xOf 4).to a w):cOde.wpIn (fw none) 9 Try.prog Φ a w:=by
 let ev:=evS b_Y [n,p0,p1,p2] [] [] BndL.nil.c.c.c.c FctL.nil LenL.nil (.nil)
 have hX:@ExtOk b_Y ev Try.prog:=⟨exNil b_Y ev,yeNil b_Y ev,kn⟩
 obtain⟨m1,pr⟩:=pre_in _ ev (f:=fi_Y) (bs:=bi_Y) pr rfl rfl rfl
 refine run_done _ ev hX (L:=100000) (d:=60) (k:=100) (N:=30) (n:=0) o ho hs (by decide) pr ?_
 intro mm w a pr
 obtain⟨m2,pr⟩:=shorter _ ev pr hk rfl
 obtain⟨m3,pr⟩:=pre_out _ ev pr rfl
 exact kk _ _ _ pr
abbrev b_Yr:Bk:={ vars:=[(-4000000000000000000,4000000000000000000),w60,w60,w60] }
def fi_Yr:List AV:=[.junk,.junk,.i 0,.v 0,.junk,.junk,.junk,.junk,.junk,.junk,.junk,.junk,.junk,.junk,.junk,.junk,.junk,.junk,.junk,.junk,.junk,(.agg [.v 1,.v 2,.v 3]),.i 3]++List.replicate 7 .junk
def bi_Yr:List Mc.Blk:=[]
noncomputable def s_Yr:Option (RT Out):=rsA b_Yr s_Xr 2 30 fi_Yr bi_Yr 0
theorem end_Yr:doneB s_Yr 1=true:=by decide +kernel
theorem res_Yr:resultsA Try.prog Try.f12 (lOf s_Yr) (oT s_Yr).get=some ((.e [([0],1)])):=by kernel_rfl
set_option maxHeartbeats 2000000 in
theorem go_Yr (oA:Option (RT Out)) (o:Option (RT Out)) (ho:rsA b_Yr oA 2 30 fi_Yr bi_Yr 0=o) (hs:doneB o 1=true) (hk:resultsA Try.prog Try.f12 (lOf o) (oT o).get=some ((.e [([0],1)]))) {p0 p1 p2 n:Int} (hn:-4000000000000000000≤n∧n≤4000000000000000000) (a0:B60 p0) (a1:B60 p1) (a2:B60 p2) {A:Nat→Prop} {w0:World} {a0:Act} {mm:Nat→St} {w:World} {a:Act} (pr:@Pre bk0 ev0 A w0 a0 mm w a (head2 n p0 p1 p2 3) (hOf ([]))):KS Try.prog (oK oA) (Fin Try.prog Try.f12 A w0 a0 (.i n)) (AX.exit 2).to a w:=by
 let ev:=evS b_Yr [n,p0,p1,p2] [] [] BndL.nil.c.c.c.c FctL.nil LenL.nil (.nil)
 have hX:@ExtOk b_Yr ev Try.prog:=⟨exNil b_Yr ev,yeNil b_Yr ev,kn⟩
 obtain⟨m1,pr⟩:=pre_in _ ev (f:=fi_Yr) (bs:=bi_Yr) pr rfl rfl rfl
 refine res_done _ ev hX (L:=100000) (d:=60) (N:=30) (n:=0) o ho hs (by decide) pr ?_
 intro mm w a pr
 exact⟨.inr rfl,b_Yr,ev,mm,lOf o,(oT o).get,.v 0,.v 0,[],pr,hk,rfl,rfl⟩
end Fr
end Go.Proofs.Ytjccjmmbebiegaa
