/-
 TopMoves: its loop: from head to head. (Printed by wip/mklaw.py out of wip/paths/mvlaw.py.)
-/
import Derived.Test.YtnalblnmplnhmaaGreatZ
import Derived.Test.YtnalblnmplnhmaaGreatPstart
import Derived.Test.YtnalblnmplnhmaaGreatTl0
set_option linter.unusedVariables false
set_option linter.unusedSimpArgs false
namespace Go.Proofs.YtnalblnmplnhmaaGreat
open Go.RowKit Mc
namespace Mv
def stR (m:Int) (L0 L1:List Lay) (b r:List Int) (rc:List RcD) (d:Int):List AV :=
 [.i 1,.i 4,.lit 1 (intsR [1]),.lit 1 (intssR [[m]]),.lit 1 (intssR [[10]]),.lit 8 [[.i 1,.c (.bool false),.lit 4 (poolsR [⟨L0,0,0,0⟩,⟨L1,0,0,0⟩]),.lit 1 (intsR b),.lit 11 (rollsR [r]),.lit 1 (intsR [-1]),.lit 1 (intsR [0]),.lit 8 []]],.lit 8 (rcsR rc),.lit 9 [],.lit 6 [],.i d]
def headF (z:List Int) (n i:Int):List AV:=[.junk,.lit 1 (intsR z),.junk,.junk,.c (.bool false),.junk,.ptr 10 0 0 0,.i n,.i i]++List.replicate 133 .junk
def headB (r:List AV):List Mc.Blk:=[.cells 33 10 [r]]
noncomputable def body:Code:=(Tryz.f5).body.getD .skip
set_option maxRecDepth 1000000
abbrev b_A:Bk:={ vars:=[w64,(0,9223372036854775807),(0,3)],lens:=[(0,[([1],1)])],extV:=[(9,[.v 0,.i 4],(.v 2)),
 (10,[(.agg [.i 1,.i 4,(.lit 1 [[.i 1]]),(.lit 1 [[(.lit 1 [[(.e [([],1),([2],1)])]])]]),(.lit 1 [[(.lit 1 [[.i 10]])]])])],(.agg [.i 1,.i 4,(.lit 1 [[.i 1]]),(.lit 1 [[(.lit 1 [[(.e [([],1),([2],1)])]])]]),(.lit 1 [[(.lit 1 [[.i 10]])]]),(.lit 8 [[.i 1,(.c (.bool false)),(.lit 4 [[(.lit 3 []),.i 0,.i 0,.i 0],[(.lit 3 []),.i 0,.i 0,.i 0]]),(.lit 1 [[.i 0],[.i 0],[.i 0],[.i 0],[.i 0],[.i 0],[.i 0],[.i 0],[.i 0],[.i 0],[.i 0],[.i 0],[.i 0],[.i 0],[.i 0],[.i 0],[.i 0]]),(.lit 11 [[.i 0,.i 0,.i 0,.i 0,.i 0,.i 0,.i 0,.i 0,.i 0,.i 0,.i 0]]),(.lit 1 [[(.i (-1))]]),(.lit 1 [[.i 0]]),(.lit 8 [])]]),(.lit 8 []),(.lit 9 []),(.lit 6 []),.i 0]))] }
def fi_A:List AV:=[.v 0,.q 1 0]++List.replicate 140 .undef
def bi_A:List Mc.Blk:=[]
noncomputable def s_A:Option (RT Out):=rnA b_A body 142 fi_A bi_A 0
theorem end_A:stopB s_A=true:=by decide +kernel
def fo_A:List AV:=[.junk,.q 1 0,.junk,.junk,(.c (.bool false)),.junk,(.ptr 10 0 0 0),.i 0,.i 0]++List.replicate 133 .junk
def bo_A:List Mc.Blk:=[.cells 33 10 [[.i 1,.i 4,(.lit 1 [[.i 1]]),(.lit 1 [[(.lit 1 [[(.e [([],1),([2],1)])]])]]),(.lit 1 [[(.lit 1 [[.i 10]])]]),(.lit 8 [[.i 1,(.c (.bool false)),(.lit 4 [[(.lit 3 []),.i 0,.i 0,.i 0],[(.lit 3 []),.i 0,.i 0,.i 0]]),(.lit 1 [[.i 0],[.i 0],[.i 0],[.i 0],[.i 0],[.i 0],[.i 0],[.i 0],[.i 0],[.i 0],[.i 0],[.i 0],[.i 0],[.i 0],[.i 0],[.i 0],[.i 0]]),(.lit 11 [[.i 0,.i 0,.i 0,.i 0,.i 0,.i 0,.i 0,.i 0,.i 0,.i 0,.i 0]]),(.lit 1 [[(.i (-1))]]),(.lit 1 [[.i 0]]),(.lit 8 [])]]),(.lit 8 []),(.lit 9 []),(.lit 6 []),.i 0]]]
theorem look_A:lK [some 10] s_A fo_A bo_A=true:=by decide +kernel
set_option maxHeartbeats 2000000 in
theorem go_A (cOde:Code) (o:Option (RT Out)) (ho:rnA b_A cOde 142 fi_A bi_A 0=o) (hs:stopB o=true) (hk:lK [some 10] o fo_A bo_A=true) {me:Int} {z:List Int} (hme:I64 me) (hz:z.length≤9223372036854775807) {m:Int} (h_m:m=1+me%4) (hS:Ck 10 [masterA m] (oneA m 10 [⟨[],0,0,0⟩,⟨[],0,0,0⟩] (intsR zeros17) zeros11 [] [] 0)) {A:Nat→Prop} {w0:World} {a0:Act} {mm:Nat→St} {w:World} {a:Act} {Φ:Post} (pr:@Pre bk0 ev0 A w0 a0 mm w a ([AV.i me,.lit 1 (intsR z)]++List.replicate 140 .undef) (hOf ([]))) (kk:∀mm w a,@Pre bk0 ev0 A w0 a0 mm w a (headF z 0 0) (hOf (headB (stR m [] [] zeros17 zeros11 [] 0)))→(Code.loop (oCode o)).wpIn (fw none) 9 Tryz.prog (KS Tryz.prog (oK o) Φ) a w):cOde.wpIn (fw none) 9 Tryz.prog Φ a w:=by
 have:=hme.lo
 have:=hme.hi
 obtain⟨ρ,hρ⟩:=rh [me,(z.length:Int),(me%4)]
 obtain rfl:=eqv hρ h_m [([],1),([2],1)]
 subst hρ
 let ev:=evS b_A [me,(z.length:Int),(me%4)] [] [intsR z] BndL.nil.c.c.c FctL.nil LenL.nil.c (.nil)
 have hX:@ExtOk b_A ev Tryz.prog:=⟨exNil b_A ev,yeNil b_A ev,kc (ck_Place me 4) (kc hS kn)⟩
 obtain⟨m1,pr⟩:=pre_in _ ev (f:=fi_A) (bs:=bi_A) pr rfl rfl rfl
 refine run_stop _ ev hX (L:=100000) (d:=60) (k:=100) (N:=142) (n:=0) o ho hs (by decide) pr ?_
 intro mm w a pr
 obtain⟨m2,pr⟩:=shorter _ ev pr hk rfl
 obtain⟨m3,pr⟩:=pre_out _ ev pr rfl
 exact kk _ _ _ pr
abbrev b_RO:Bk:={ vars:=[(0,1000),(0,59),(0,9223372036854775807),w64,(0,1048575),(0,0),(0,131071),(0,11),(0,262143),(0,1)],facts:=[([([1],-1),([2],1)],1,9223372036854775807)],defs:=[(1,[([4],1)],[([],4)],[([5],1)]),(0,[([4],1)],[([],8)],[([6],1)]),(1,[([6],1)],[([],12)],[([7],1)]),(0,[([4],1)],[([],4)],[([8],1)]),(1,[([8],1)],[([],2)],[([9],1)])],lens:=[(0,[([2],1)]),(8,[([],17)])],ats:=[(0,[([1],1)],[.v 3]),(8,[],[(.e [([],10),([0],10),([7],10)])]),(8,[([],8)],[.i 0]),(8,[([],6)],[.i 0])],extV:=[(9,[.v 3,.i 1048576],(.v 4)),
 (11,[(.agg [.i 1,.i 4,(.lit 1 [[.i 1]]),(.lit 1 [[(.lit 1 [[.o 0]])]]),(.lit 1 [[(.lit 1 [[.i 10]])]]),(.lit 8 [[.i 1,(.c (.bool false)),(.lit 4 [[.q 3 1,.i 0,.i 0,.i 0],[.q 3 2,.i 0,.i 0,.i 0]]),.q 1 3,.q 11 4,(.lit 1 [[(.i (-1))]]),(.lit 1 [[.i 0]]),(.lit 8 [])]]),.q 8 5,(.lit 9 []),(.lit 6 []),.o 1]),(.agg [.i 1,.i 0,.i 0,.v 9,.i 0,(.e [([],1),([7],1)]),(.e [([],10),([7],10)]),.i 0,.emp])],(.tup [(.agg [.i 1,.i 4,(.lit 1 [[.i 1]]),(.lit 1 [[(.lit 1 [[.o 0]])]]),(.lit 1 [[(.lit 1 [[.i 10]])]]),(.lit 8 [[.i 1,(.c (.bool false)),(.lit 4 [[.q 3 6,.i 0,.i 0,.i 0],[.q 3 7,.i 0,.i 0,.i 0]]),.q 1 8,.q 11 9,(.lit 1 [[(.i (-1))]]),(.lit 1 [[.i 0]]),(.lit 8 [])]]),.q 8 10,(.lit 9 []),(.lit 6 []),.o 2]),.i 0])),
 (15,[(.agg [.i 1,.i 4,(.lit 1 [[.i 1]]),(.lit 1 [[(.lit 1 [[.o 0]])]]),(.lit 1 [[(.lit 1 [[.i 10]])]]),(.lit 8 [[.i 1,(.c (.bool false)),(.lit 4 [[.q 3 6,.i 0,.i 0,.i 0],[.q 3 7,.i 0,.i 0,.i 0]]),.q 1 8,.q 11 9,(.lit 1 [[(.i (-1))]]),(.lit 1 [[.i 0]]),(.lit 8 [])]]),.q 8 10,(.lit 9 []),(.lit 6 []),.o 2]),.i 0,.i 0],(.agg [(.e [([],1),([0],1),([7],1)]),(.e [([],10),([0],10),([7],10)]),.i 0]))] }
def fi_RO:List AV:=[.junk,.q 1 0,.junk,.junk,(.c (.bool false)),.junk,(.ptr 10 0 0 0),.v 0,.v 1]++List.replicate 133 .junk
def bi_RO:List Mc.Blk:=[.cells 33 10 [[.i 1,.i 4,(.lit 1 [[.i 1]]),(.lit 1 [[(.lit 1 [[.o 0]])]]),(.lit 1 [[(.lit 1 [[.i 10]])]]),(.lit 8 [[.i 1,(.c (.bool false)),(.lit 4 [[.q 3 1,.i 0,.i 0,.i 0],[.q 3 2,.i 0,.i 0,.i 0]]),.q 1 3,.q 11 4,(.lit 1 [[(.i (-1))]]),(.lit 1 [[.i 0]]),(.lit 8 [])]]),.q 8 5,(.lit 9 []),(.lit 6 []),.o 1]]]
noncomputable def s_RO:Option (RT Out):=rnA b_RO (oCode s_A) 142 fi_RO bi_RO 1
theorem end_RO:doneB s_RO 0=true:=by decide +kernel
def fo_RO:List AV:=[.junk,.q 1 0,.junk,.junk,(.c (.bool false)),.junk,(.ptr 10 0 0 0),(.e [([],1),([0],1),([7],1)]),(.e [([],1),([1],1)])]++List.replicate 133 .junk
def bo_RO:List Mc.Blk:=[.cells 33 10 [[.i 1,.i 4,(.lit 1 [[.i 1]]),(.lit 1 [[(.lit 1 [[.o 0]])]]),(.lit 1 [[(.lit 1 [[.i 10]])]]),(.lit 8 [[.i 1,(.c (.bool false)),(.lit 4 [[.q 3 6,.i 0,.i 0,.i 0],[.q 3 7,.i 0,.i 0,.i 0]]),.q 1 8,.q 11 9,(.lit 1 [[(.i (-1))]]),(.lit 1 [[.i 0]]),(.lit 8 [])]]),.q 8 10,(.lit 9 []),(.lit 6 []),.o 2]]]
theorem look_RO:lK [some 0] s_RO fo_RO bo_RO=true:=by decide +kernel
set_option maxHeartbeats 2000000 in
theorem go_RO (cOde:Code) (o:Option (RT Out)) (ho:rnA b_RO cOde 142 fi_RO bi_RO 1=o) (hs:doneB o 0=true) (hk:lK [some 0] o fo_RO bo_RO=true) {m n ix v d d2:Int} {z:List Int} {L0 L1 L02 L12:List Lay} {b r b2 r2:List Int} {rc rc2:List RcD} (hn:0≤n∧n≤1000) (hi:0≤ix∧ix≤59) (hil:ix<z.length) (hz:z.length≤9223372036854775807) (hv:I64 v) (hx:z[ix.toNat]?=some v) (hpar:(v%1048576)%4=0) (hbl:b2.length=17) {q:Int} (h_q:q=1+(v%1048576)/8%12) {am:Int} (h_am:am=10+10*((v%1048576)/8%12)) {n2:Int} (h_n2:n2=n+(1+(v%1048576)/8%12)) {nn:Int} (h_nn:nn=10*(n+(1+(v%1048576)/8%12))) {i2:Int} (h_i2:i2=1+ix) (hT:Ck 11 [oneA m 10 [⟨L0,0,0,0⟩,⟨L1,0,0,0⟩] (intsR b) r (rcsR rc) [] d,opAv 1 0 0 ((v%1048576)/4%2) 0 q am 0] (.tup [oneA m 10 [⟨L02,0,0,0⟩,⟨L12,0,0,0⟩] (intsR b2) r2 (rcsR rc2) [] d2,.i 0])) (hW:Ck 15 [oneA m 10 [⟨L02,0,0,0⟩,⟨L12,0,0,0⟩] (intsR b2) r2 (rcsR rc2) [] d2,.i 0,.i 0] (Lay.av ⟨n2,nn,0⟩)) (hb0:b2[0]?=some nn) (hb8:b2[8]?=some 0) (hb6:b2[6]?=some 0) {A:Nat→Prop} {w0:World} {a0:Act} {mm:Nat→St} {w:World} {a:Act} {Φ:Post} (pr:@Pre bk0 ev0 A w0 a0 mm w a (headF z n ix) (hOf (headB (stR m L0 L1 b r rc d)))) (kk:∀mm w a,@Pre bk0 ev0 A w0 a0 mm w a (headF z n2 i2) (hOf (headB (stR m L02 L12 b2 r2 rc2 d2)))→Φ (xOf 0).to a w):cOde.wpIn (fw none) 9 Tryz.prog Φ a w:=by
 have:=hv.lo
 have:=hv.hi
 have hK:=Int.emod_nonneg v (show(1048576:Int)≠0 by decide)
 have hK2:=Int.emod_lt_of_pos v (show(0:Int)<1048576 by decide)
 obtain⟨ρ,hρ⟩:=rh [n,ix,(z.length:Int),v,(v%1048576),((v%1048576)%4),((v%1048576)/8),((v%1048576)/8%12),((v%1048576)/4),((v%1048576)/4%2)]
 obtain rfl:=eqv hρ h_q [([],1),([7],1)]
 obtain rfl:=eqv hρ h_am [([],10),([7],10)]
 obtain rfl:=eqv hρ h_n2 [([],1),([0],1),([7],1)]
 obtain rfl:=eqv hρ h_nn [([],10),([0],10),([7],10)]
 obtain rfl:=eqv hρ h_i2 [([],1),([1],1)]
 subst hρ
 let ev:=evS b_RO [n,ix,(z.length:Int),v,(v%1048576),((v%1048576)%4),((v%1048576)/8),((v%1048576)/8%12),((v%1048576)/4),((v%1048576)/4%2)] [.int .i64 m,.int .i64 d,.int .i64 d2] [intsR z,laysR L0,laysR L1,intsR b,rollsR [r],rcsR rc,laysR L02,laysR L12,intsR b2,rollsR [r2],rcsR rc2] BndL.nil.c.c.c.c.c.c.c.c.c.c FctL.nil.c LenL.nil.c.c (.d (aI hx) (.d (az hb0) (.d (aK hb8) (.d (aK hb6) .nil)))) (.rem (rem_def (pv_get _ _) (pv_get _ _) (pv_lit _ _) (show(0:Int)≤(v%1048576)by omega) rfl) (.quo (quo_def (pv_get _ _) (pv_get _ _) (pv_lit _ _) (show(0:Int)≤(v%1048576)by omega) rfl) (.rem (rem_def (pv_get _ _) (pv_get _ _) (pv_lit _ _) (show(0:Int)≤((v%1048576)/8)by omega) rfl) (.quo (quo_def (pv_get _ _) (pv_get _ _) (pv_lit _ _) (show(0:Int)≤(v%1048576)by omega) rfl) (.rem (rem_def (pv_get _ _) (pv_get _ _) (pv_lit _ _) (show(0:Int)≤((v%1048576)/4)by omega) rfl) (.nil))))))
 have hX:@ExtOk b_RO ev Tryz.prog:=⟨exNil b_RO ev,yeNil b_RO ev,kc (ck_Place v 1048576) (kc hT (kc hW kn))⟩
 obtain⟨m1,pr⟩:=pre_in _ ev (f:=fi_RO) (bs:=bi_RO) pr rfl rfl rfl
 refine run_done _ ev hX (L:=100000) (d:=60) (k:=100) (N:=142) (n:=1) o ho hs (by decide) pr ?_
 intro mm w a pr
 obtain⟨m2,pr⟩:=shorter _ ev pr hk rfl
 obtain⟨m3,pr⟩:=pre_out _ ev pr rfl
 exact kk _ _ _ pr
abbrev b_RE:Bk:={ vars:=[(0,1000),(0,59),(0,9223372036854775807),w64,(0,1048575),(0,0),(0,131071),(0,11),(0,262143),(0,1),(1,20)],facts:=[([([1],-1),([2],1)],1,9223372036854775807)],defs:=[(1,[([4],1)],[([],4)],[([5],1)]),(0,[([4],1)],[([],8)],[([6],1)]),(1,[([6],1)],[([],12)],[([7],1)]),(0,[([4],1)],[([],4)],[([8],1)]),(1,[([8],1)],[([],2)],[([9],1)])],lens:=[(0,[([2],1)]),(3,[([],17)])],ats:=[(0,[([1],1)],[.v 3]),(3,[],[(.e [([0],10)])]),(3,[([],8)],[.i 0]),(3,[([],6)],[.i 0])],extV:=[(9,[.v 3,.i 1048576],(.v 4)),
 (11,[(.agg [.i 1,.i 4,(.lit 1 [[.i 1]]),(.lit 1 [[(.lit 1 [[.o 0]])]]),(.lit 1 [[(.lit 1 [[.i 10]])]]),(.lit 8 [[.i 1,(.c (.bool false)),(.lit 4 [[.q 3 1,.i 0,.i 0,.i 0],[.q 3 2,.i 0,.i 0,.i 0]]),.q 1 3,.q 11 4,(.lit 1 [[(.i (-1))]]),(.lit 1 [[.i 0]]),(.lit 8 [])]]),.q 8 5,(.lit 9 []),(.lit 6 []),.o 1]),(.agg [.i 1,.i 0,.i 0,.v 9,.i 0,(.e [([],1),([7],1)]),(.e [([],10),([7],10)]),.i 0,.emp])],(.tup [(.agg [.i 1,.i 4,(.lit 1 [[.i 1]]),(.lit 1 [[(.lit 1 [[.o 0]])]]),(.lit 1 [[(.lit 1 [[.i 10]])]]),(.lit 8 [[.i 1,(.c (.bool false)),(.lit 4 [[.q 3 1,.i 0,.i 0,.i 0],[.q 3 2,.i 0,.i 0,.i 0]]),.q 1 3,.q 11 4,(.lit 1 [[(.i (-1))]]),(.lit 1 [[.i 0]]),(.lit 8 [])]]),.q 8 5,(.lit 9 []),(.lit 6 []),.o 1]),.v 10])),
 (15,[(.agg [.i 1,.i 4,(.lit 1 [[.i 1]]),(.lit 1 [[(.lit 1 [[.o 0]])]]),(.lit 1 [[(.lit 1 [[.i 10]])]]),(.lit 8 [[.i 1,(.c (.bool false)),(.lit 4 [[.q 3 1,.i 0,.i 0,.i 0],[.q 3 2,.i 0,.i 0,.i 0]]),.q 1 3,.q 11 4,(.lit 1 [[(.i (-1))]]),(.lit 1 [[.i 0]]),(.lit 8 [])]]),.q 8 5,(.lit 9 []),(.lit 6 []),.o 1]),.i 0,.i 0],(.agg [.v 0,(.e [([0],10)]),.i 0]))] }
def fi_RE:List AV:=[.junk,.q 1 0,.junk,.junk,(.c (.bool false)),.junk,(.ptr 10 0 0 0),.v 0,.v 1]++List.replicate 133 .junk
def bi_RE:List Mc.Blk:=[.cells 33 10 [[.i 1,.i 4,(.lit 1 [[.i 1]]),(.lit 1 [[(.lit 1 [[.o 0]])]]),(.lit 1 [[(.lit 1 [[.i 10]])]]),(.lit 8 [[.i 1,(.c (.bool false)),(.lit 4 [[.q 3 1,.i 0,.i 0,.i 0],[.q 3 2,.i 0,.i 0,.i 0]]),.q 1 3,.q 11 4,(.lit 1 [[(.i (-1))]]),(.lit 1 [[.i 0]]),(.lit 8 [])]]),.q 8 5,(.lit 9 []),(.lit 6 []),.o 1]]]
noncomputable def s_RE:Option (RT Out):=rnA b_RE (oCode s_A) 142 fi_RE bi_RE 1
theorem end_RE:doneB s_RE 0=true:=by decide +kernel
def fo_RE:List AV:=[.junk,.q 1 0,.junk,.junk,(.c (.bool false)),.junk,(.ptr 10 0 0 0),.v 0,(.e [([],1),([1],1)])]++List.replicate 133 .junk
def bo_RE:List Mc.Blk:=[.cells 33 10 [[.i 1,.i 4,(.lit 1 [[.i 1]]),(.lit 1 [[(.lit 1 [[.o 0]])]]),(.lit 1 [[(.lit 1 [[.i 10]])]]),(.lit 8 [[.i 1,(.c (.bool false)),(.lit 4 [[.q 3 1,.i 0,.i 0,.i 0],[.q 3 2,.i 0,.i 0,.i 0]]),.q 1 3,.q 11 4,(.lit 1 [[(.i (-1))]]),(.lit 1 [[.i 0]]),(.lit 8 [])]]),.q 8 5,(.lit 9 []),(.lit 6 []),.o 1]]]
theorem look_RE:lK [some 0] s_RE fo_RE bo_RE=true:=by decide +kernel
set_option maxHeartbeats 2000000 in
theorem go_RE (cOde:Code) (o:Option (RT Out)) (ho:rnA b_RE cOde 142 fi_RE bi_RE 1=o) (hs:doneB o 0=true) (hk:lK [some 0] o fo_RE bo_RE=true) {m n ix v d f:Int} {z:List Int} {L0 L1:List Lay} {b r:List Int} {rc:List RcD} (hn:0≤n∧n≤1000) (hi:0≤ix∧ix≤59) (hil:ix<z.length) (hz:z.length≤9223372036854775807) (hv:I64 v) (hx:z[ix.toNat]?=some v) (hpar:(v%1048576)%4=0) (hf:1≤f∧f≤20) (hbl:b.length=17) {q:Int} (h_q:q=1+(v%1048576)/8%12) {am:Int} (h_am:am=10+10*((v%1048576)/8%12)) {nn:Int} (h_nn:nn=10*n) {i2:Int} (h_i2:i2=1+ix) (hT:Ck 11 [oneA m 10 [⟨L0,0,0,0⟩,⟨L1,0,0,0⟩] (intsR b) r (rcsR rc) [] d,opAv 1 0 0 ((v%1048576)/4%2) 0 q am 0] (.tup [oneA m 10 [⟨L0,0,0,0⟩,⟨L1,0,0,0⟩] (intsR b) r (rcsR rc) [] d,.i f])) (hW:Ck 15 [oneA m 10 [⟨L0,0,0,0⟩,⟨L1,0,0,0⟩] (intsR b) r (rcsR rc) [] d,.i 0,.i 0] (Lay.av ⟨n,nn,0⟩)) (hb0:b[0]?=some nn) (hb8:b[8]?=some 0) (hb6:b[6]?=some 0) {A:Nat→Prop} {w0:World} {a0:Act} {mm:Nat→St} {w:World} {a:Act} {Φ:Post} (pr:@Pre bk0 ev0 A w0 a0 mm w a (headF z n ix) (hOf (headB (stR m L0 L1 b r rc d)))) (kk:∀mm w a,@Pre bk0 ev0 A w0 a0 mm w a (headF z n i2) (hOf (headB (stR m L0 L1 b r rc d)))→Φ (xOf 0).to a w):cOde.wpIn (fw none) 9 Tryz.prog Φ a w:=by
 have:=hv.lo
 have:=hv.hi
 have hK:=Int.emod_nonneg v (show(1048576:Int)≠0 by decide)
 have hK2:=Int.emod_lt_of_pos v (show(0:Int)<1048576 by decide)
 obtain⟨ρ,hρ⟩:=rh [n,ix,(z.length:Int),v,(v%1048576),((v%1048576)%4),((v%1048576)/8),((v%1048576)/8%12),((v%1048576)/4),((v%1048576)/4%2),f]
 obtain rfl:=eqv hρ h_q [([],1),([7],1)]
 obtain rfl:=eqv hρ h_am [([],10),([7],10)]
 obtain rfl:=eqv hρ h_nn [([0],10)]
 obtain rfl:=eqv hρ h_i2 [([],1),([1],1)]
 subst hρ
 let ev:=evS b_RE [n,ix,(z.length:Int),v,(v%1048576),((v%1048576)%4),((v%1048576)/8),((v%1048576)/8%12),((v%1048576)/4),((v%1048576)/4%2),f] [.int .i64 m,.int .i64 d] [intsR z,laysR L0,laysR L1,intsR b,rollsR [r],rcsR rc] BndL.nil.c.c.c.c.c.c.c.c.c.c.c FctL.nil.c LenL.nil.c.c (.d (aI hx) (.d (az hb0) (.d (aK hb8) (.d (aK hb6) .nil)))) (.rem (rem_def (pv_get _ _) (pv_get _ _) (pv_lit _ _) (show(0:Int)≤(v%1048576)by omega) rfl) (.quo (quo_def (pv_get _ _) (pv_get _ _) (pv_lit _ _) (show(0:Int)≤(v%1048576)by omega) rfl) (.rem (rem_def (pv_get _ _) (pv_get _ _) (pv_lit _ _) (show(0:Int)≤((v%1048576)/8)by omega) rfl) (.quo (quo_def (pv_get _ _) (pv_get _ _) (pv_lit _ _) (show(0:Int)≤(v%1048576)by omega) rfl) (.rem (rem_def (pv_get _ _) (pv_get _ _) (pv_lit _ _) (show(0:Int)≤((v%1048576)/4)by omega) rfl) (.nil))))))
 have hX:@ExtOk b_RE ev Tryz.prog:=⟨exNil b_RE ev,yeNil b_RE ev,kc (ck_Place v 1048576) (kc hT (kc hW kn))⟩
 obtain⟨m1,pr⟩:=pre_in _ ev (f:=fi_RE) (bs:=bi_RE) pr rfl rfl rfl
 refine run_done _ ev hX (L:=100000) (d:=60) (k:=100) (N:=142) (n:=1) o ho hs (by decide) pr ?_
 intro mm w a pr
 obtain⟨m2,pr⟩:=shorter _ ev pr hk rfl
 obtain⟨m3,pr⟩:=pre_out _ ev pr rfl
 exact kk _ _ _ pr
abbrev b_CO:Bk:={ vars:=[(0,1000),(0,59),(0,9223372036854775807),w64,(0,1048575),(1,1),(0,131071),(0,11),(0,262143),(0,1),(0,100000)],facts:=[([([1],-1),([2],1)],1,9223372036854775807)],defs:=[(1,[([4],1)],[([],4)],[([5],1)]),(0,[([4],1)],[([],8)],[([6],1)]),(1,[([6],1)],[([],12)],[([7],1)]),(0,[([4],1)],[([],4)],[([8],1)]),(1,[([8],1)],[([],2)],[([9],1)])],lens:=[(0,[([2],1)]),(9,[([],17)])],ats:=[(0,[([1],1)],[.v 3]),(9,[],[(.e [([0],10)])]),(9,[([],8)],[.i 0]),(9,[([],6)],[.i 0])],extV:=[(9,[.v 3,.i 1048576],(.v 4)),
 (16,[(.agg [.i 1,.i 4,(.lit 1 [[.i 1]]),(.lit 1 [[(.lit 1 [[.o 0]])]]),(.lit 1 [[(.lit 1 [[.i 10]])]]),(.lit 8 [[.i 1,(.c (.bool false)),(.lit 4 [[.q 3 1,.i 0,.i 0,.i 0],[.q 3 2,.i 0,.i 0,.i 0]]),.q 1 3,.q 11 4,(.lit 1 [[(.i (-1))]]),(.lit 1 [[.i 0]]),(.lit 8 [])]]),.q 8 5,(.lit 9 []),(.lit 6 []),.o 1]),.i 0,.i 0,.v 9],(.agg [.q 3 6,.i 0,.i 0,.i 0])),
 (17,[(.agg [.q 3 6,.i 0,.i 0,.i 0])],(.v 10)),
 (11,[(.agg [.i 1,.i 4,(.lit 1 [[.i 1]]),(.lit 1 [[(.lit 1 [[.o 0]])]]),(.lit 1 [[(.lit 1 [[.i 10]])]]),(.lit 8 [[.i 1,(.c (.bool false)),(.lit 4 [[.q 3 1,.i 0,.i 0,.i 0],[.q 3 2,.i 0,.i 0,.i 0]]),.q 1 3,.q 11 4,(.lit 1 [[(.i (-1))]]),(.lit 1 [[.i 0]]),(.lit 8 [])]]),.q 8 5,(.lit 9 []),(.lit 6 []),.o 1]),(.agg [.i 7,.i 0,.i 0,.v 9,.i 0,.v 10,.i 0,.i 0,.emp])],(.tup [(.agg [.i 1,.i 4,(.lit 1 [[.i 1]]),(.lit 1 [[(.lit 1 [[.o 0]])]]),(.lit 1 [[(.lit 1 [[.i 10]])]]),(.lit 8 [[.i 1,(.c (.bool false)),(.lit 4 [[.q 3 7,.i 0,.i 0,.i 0],[.q 3 8,.i 0,.i 0,.i 0]]),.q 1 9,.q 11 10,(.lit 1 [[(.i (-1))]]),(.lit 1 [[.i 0]]),(.lit 8 [])]]),.q 8 11,(.lit 9 []),(.lit 6 []),.o 2]),.i 0])),
 (15,[(.agg [.i 1,.i 4,(.lit 1 [[.i 1]]),(.lit 1 [[(.lit 1 [[.o 0]])]]),(.lit 1 [[(.lit 1 [[.i 10]])]]),(.lit 8 [[.i 1,(.c (.bool false)),(.lit 4 [[.q 3 7,.i 0,.i 0,.i 0],[.q 3 8,.i 0,.i 0,.i 0]]),.q 1 9,.q 11 10,(.lit 1 [[(.i (-1))]]),(.lit 1 [[.i 0]]),(.lit 8 [])]]),.q 8 11,(.lit 9 []),(.lit 6 []),.o 2]),.i 0,.i 0],(.agg [.v 0,(.e [([0],10)]),.i 0]))] }
def fi_CO:List AV:=[.junk,.q 1 0,.junk,.junk,(.c (.bool false)),.junk,(.ptr 10 0 0 0),.v 0,.v 1]++List.replicate 133 .junk
def bi_CO:List Mc.Blk:=[.cells 33 10 [[.i 1,.i 4,(.lit 1 [[.i 1]]),(.lit 1 [[(.lit 1 [[.o 0]])]]),(.lit 1 [[(.lit 1 [[.i 10]])]]),(.lit 8 [[.i 1,(.c (.bool false)),(.lit 4 [[.q 3 1,.i 0,.i 0,.i 0],[.q 3 2,.i 0,.i 0,.i 0]]),.q 1 3,.q 11 4,(.lit 1 [[(.i (-1))]]),(.lit 1 [[.i 0]]),(.lit 8 [])]]),.q 8 5,(.lit 9 []),(.lit 6 []),.o 1]]]
noncomputable def s_CO:Option (RT Out):=rnA b_CO (oCode s_A) 142 fi_CO bi_CO 1
theorem end_CO:doneB s_CO 0=true:=by decide +kernel
def fo_CO:List AV:=[.junk,.q 1 0,.junk,.junk,(.c (.bool false)),.junk,(.ptr 10 0 0 0),.v 0,(.e [([],1),([1],1)])]++List.replicate 133 .junk
def bo_CO:List Mc.Blk:=[.cells 33 10 [[.i 1,.i 4,(.lit 1 [[.i 1]]),(.lit 1 [[(.lit 1 [[.o 0]])]]),(.lit 1 [[(.lit 1 [[.i 10]])]]),(.lit 8 [[.i 1,(.c (.bool false)),(.lit 4 [[.q 3 7,.i 0,.i 0,.i 0],[.q 3 8,.i 0,.i 0,.i 0]]),.q 1 9,.q 11 10,(.lit 1 [[(.i (-1))]]),(.lit 1 [[.i 0]]),(.lit 8 [])]]),.q 8 11,(.lit 9 []),(.lit 6 []),.o 2]]]
theorem look_CO:lK [some 0] s_CO fo_CO bo_CO=true:=by decide +kernel
set_option maxHeartbeats 2000000 in
theorem go_CO (cOde:Code) (o:Option (RT Out)) (ho:rnA b_CO cOde 142 fi_CO bi_CO 1=o) (hs:doneB o 0=true) (hk:lK [some 0] o fo_CO bo_CO=true) {m n ix v d d2:Int} {z:List Int} {L0 L1 L02 L12:List Lay} {b r b2 r2:List Int} {rc rc2:List RcD} (hn:0≤n∧n≤1000) (hi:0≤ix∧ix≤59) (hil:ix<z.length) (hz:z.length≤9223372036854775807) (hv:I64 v) (hx:z[ix.toNat]?=some v) (hpar:(v%1048576)%4=1) {c:Int} {LL:List Lay} (hc:0≤c∧c≤100000) (hbl:b2.length=17) {q:Int} (h_q:q=1+(v%1048576)/8%12) {nn:Int} (h_nn:nn=10*n) {i2:Int} (h_i2:i2=1+ix) (hA:Ck 16 [oneA m 10 [⟨L0,0,0,0⟩,⟨L1,0,0,0⟩] (intsR b) r (rcsR rc) [] d,.i 0,.i 0,.i ((v%1048576)/4%2)] (PoolD.av ⟨LL,0,0,0⟩)) (hQ:Ck 17 [PoolD.av ⟨LL,0,0,0⟩] (.i c)) (hT:Ck 11 [oneA m 10 [⟨L0,0,0,0⟩,⟨L1,0,0,0⟩] (intsR b) r (rcsR rc) [] d,opAv 7 0 0 ((v%1048576)/4%2) 0 c 0 0] (.tup [oneA m 10 [⟨L02,0,0,0⟩,⟨L12,0,0,0⟩] (intsR b2) r2 (rcsR rc2) [] d2,.i 0])) (hW:Ck 15 [oneA m 10 [⟨L02,0,0,0⟩,⟨L12,0,0,0⟩] (intsR b2) r2 (rcsR rc2) [] d2,.i 0,.i 0] (Lay.av ⟨n,nn,0⟩)) (hb0:b2[0]?=some nn) (hb8:b2[8]?=some 0) (hb6:b2[6]?=some 0) {A:Nat→Prop} {w0:World} {a0:Act} {mm:Nat→St} {w:World} {a:Act} {Φ:Post} (pr:@Pre bk0 ev0 A w0 a0 mm w a (headF z n ix) (hOf (headB (stR m L0 L1 b r rc d)))) (kk:∀mm w a,@Pre bk0 ev0 A w0 a0 mm w a (headF z n i2) (hOf (headB (stR m L02 L12 b2 r2 rc2 d2)))→Φ (xOf 0).to a w):cOde.wpIn (fw none) 9 Tryz.prog Φ a w:=by
 have:=hv.lo
 have:=hv.hi
 have hK:=Int.emod_nonneg v (show(1048576:Int)≠0 by decide)
 have hK2:=Int.emod_lt_of_pos v (show(0:Int)<1048576 by decide)
 obtain⟨ρ,hρ⟩:=rh [n,ix,(z.length:Int),v,(v%1048576),((v%1048576)%4),((v%1048576)/8),((v%1048576)/8%12),((v%1048576)/4),((v%1048576)/4%2),c]
 obtain rfl:=eqv hρ h_q [([],1),([7],1)]
 obtain rfl:=eqv hρ h_nn [([0],10)]
 obtain rfl:=eqv hρ h_i2 [([],1),([1],1)]
 subst hρ
 let ev:=evS b_CO [n,ix,(z.length:Int),v,(v%1048576),((v%1048576)%4),((v%1048576)/8),((v%1048576)/8%12),((v%1048576)/4),((v%1048576)/4%2),c] [.int .i64 m,.int .i64 d,.int .i64 d2] [intsR z,laysR L0,laysR L1,intsR b,rollsR [r],rcsR rc,laysR LL,laysR L02,laysR L12,intsR b2,rollsR [r2],rcsR rc2] BndL.nil.c.c.c.c.c.c.c.c.c.c.c FctL.nil.c LenL.nil.c.c (.d (aI hx) (.d (az hb0) (.d (aK hb8) (.d (aK hb6) .nil)))) (.rem (rem_def (pv_get _ _) (pv_get _ _) (pv_lit _ _) (show(0:Int)≤(v%1048576)by omega) rfl) (.quo (quo_def (pv_get _ _) (pv_get _ _) (pv_lit _ _) (show(0:Int)≤(v%1048576)by omega) rfl) (.rem (rem_def (pv_get _ _) (pv_get _ _) (pv_lit _ _) (show(0:Int)≤((v%1048576)/8)by omega) rfl) (.quo (quo_def (pv_get _ _) (pv_get _ _) (pv_lit _ _) (show(0:Int)≤(v%1048576)by omega) rfl) (.rem (rem_def (pv_get _ _) (pv_get _ _) (pv_lit _ _) (show(0:Int)≤((v%1048576)/4)by omega) rfl) (.nil))))))
 have hX:@ExtOk b_CO ev Tryz.prog:=⟨exNil b_CO ev,yeNil b_CO ev,kc (ck_Place v 1048576) (kc hA (kc hQ (kc hT (kc hW kn))))⟩
 obtain⟨m1,pr⟩:=pre_in _ ev (f:=fi_CO) (bs:=bi_CO) pr rfl rfl rfl
 refine run_done _ ev hX (L:=100000) (d:=60) (k:=100) (N:=142) (n:=1) o ho hs (by decide) pr ?_
 intro mm w a pr
 obtain⟨m2,pr⟩:=shorter _ ev pr hk rfl
 obtain⟨m3,pr⟩:=pre_out _ ev pr rfl
 exact kk _ _ _ pr
abbrev b_MO:Bk:={ vars:=[(0,1000),(0,59),(0,9223372036854775807),w64,(0,1048575),(2,3),(0,131071),(0,11),(0,262143),(0,1)],facts:=[([([1],-1),([2],1)],1,9223372036854775807)],defs:=[(1,[([4],1)],[([],4)],[([5],1)]),(0,[([4],1)],[([],8)],[([6],1)]),(1,[([6],1)],[([],12)],[([7],1)]),(0,[([4],1)],[([],4)],[([8],1)]),(1,[([8],1)],[([],2)],[([9],1)])],lens:=[(0,[([2],1)]),(8,[([],17)])],ats:=[(0,[([1],1)],[.v 3]),(8,[],[(.e [([0],10)])]),(8,[([],8)],[.i 0]),(8,[([],6)],[.i 0])],extV:=[(9,[.v 3,.i 1048576],(.v 4)),
 (11,[(.agg [.i 1,.i 4,(.lit 1 [[.i 1]]),(.lit 1 [[(.lit 1 [[.o 0]])]]),(.lit 1 [[(.lit 1 [[.i 10]])]]),(.lit 8 [[.i 1,(.c (.bool false)),(.lit 4 [[.q 3 1,.i 0,.i 0,.i 0],[.q 3 2,.i 0,.i 0,.i 0]]),.q 1 3,.q 11 4,(.lit 1 [[(.i (-1))]]),(.lit 1 [[.i 0]]),(.lit 8 [])]]),.q 8 5,(.lit 9 []),(.lit 6 []),.o 1]),(.agg [.i 8,.i 0,.i 0,.v 9,(.e [([],1),([9],-1)]),(.e [([],1),([7],1)]),.i 0,.i 0,.emp])],(.tup [(.agg [.i 1,.i 4,(.lit 1 [[.i 1]]),(.lit 1 [[(.lit 1 [[.o 0]])]]),(.lit 1 [[(.lit 1 [[.i 10]])]]),(.lit 8 [[.i 1,(.c (.bool false)),(.lit 4 [[.q 3 6,.i 0,.i 0,.i 0],[.q 3 7,.i 0,.i 0,.i 0]]),.q 1 8,.q 11 9,(.lit 1 [[(.i (-1))]]),(.lit 1 [[.i 0]]),(.lit 8 [])]]),.q 8 10,(.lit 9 []),(.lit 6 []),.o 2]),.i 0])),
 (15,[(.agg [.i 1,.i 4,(.lit 1 [[.i 1]]),(.lit 1 [[(.lit 1 [[.o 0]])]]),(.lit 1 [[(.lit 1 [[.i 10]])]]),(.lit 8 [[.i 1,(.c (.bool false)),(.lit 4 [[.q 3 6,.i 0,.i 0,.i 0],[.q 3 7,.i 0,.i 0,.i 0]]),.q 1 8,.q 11 9,(.lit 1 [[(.i (-1))]]),(.lit 1 [[.i 0]]),(.lit 8 [])]]),.q 8 10,(.lit 9 []),(.lit 6 []),.o 2]),.i 0,.i 0],(.agg [.v 0,(.e [([0],10)]),.i 0]))] }
def fi_MO:List AV:=[.junk,.q 1 0,.junk,.junk,(.c (.bool false)),.junk,(.ptr 10 0 0 0),.v 0,.v 1]++List.replicate 133 .junk
def bi_MO:List Mc.Blk:=[.cells 33 10 [[.i 1,.i 4,(.lit 1 [[.i 1]]),(.lit 1 [[(.lit 1 [[.o 0]])]]),(.lit 1 [[(.lit 1 [[.i 10]])]]),(.lit 8 [[.i 1,(.c (.bool false)),(.lit 4 [[.q 3 1,.i 0,.i 0,.i 0],[.q 3 2,.i 0,.i 0,.i 0]]),.q 1 3,.q 11 4,(.lit 1 [[(.i (-1))]]),(.lit 1 [[.i 0]]),(.lit 8 [])]]),.q 8 5,(.lit 9 []),(.lit 6 []),.o 1]]]
noncomputable def s_MO:Option (RT Out):=rnA b_MO (oCode s_A) 142 fi_MO bi_MO 1
theorem end_MO:doneB s_MO 0=true:=by decide +kernel
def fo_MO:List AV:=[.junk,.q 1 0,.junk,.junk,(.c (.bool false)),.junk,(.ptr 10 0 0 0),.v 0,(.e [([],1),([1],1)])]++List.replicate 133 .junk
def bo_MO:List Mc.Blk:=[.cells 33 10 [[.i 1,.i 4,(.lit 1 [[.i 1]]),(.lit 1 [[(.lit 1 [[.o 0]])]]),(.lit 1 [[(.lit 1 [[.i 10]])]]),(.lit 8 [[.i 1,(.c (.bool false)),(.lit 4 [[.q 3 6,.i 0,.i 0,.i 0],[.q 3 7,.i 0,.i 0,.i 0]]),.q 1 8,.q 11 9,(.lit 1 [[(.i (-1))]]),(.lit 1 [[.i 0]]),(.lit 8 [])]]),.q 8 10,(.lit 9 []),(.lit 6 []),.o 2]]]
theorem look_MO:lK [some 0] s_MO fo_MO bo_MO=true:=by decide +kernel
set_option maxHeartbeats 2000000 in
theorem go_MO (cOde:Code) (o:Option (RT Out)) (ho:rnA b_MO cOde 142 fi_MO bi_MO 1=o) (hs:doneB o 0=true) (hk:lK [some 0] o fo_MO bo_MO=true) {m n ix v d d2:Int} {z:List Int} {L0 L1 L02 L12:List Lay} {b r b2 r2:List Int} {rc rc2:List RcD} (hn:0≤n∧n≤1000) (hi:0≤ix∧ix≤59) (hil:ix<z.length) (hz:z.length≤9223372036854775807) (hv:I64 v) (hx:z[ix.toNat]?=some v) (hpar:2≤(v%1048576)%4) (hbl:b2.length=17) {q:Int} (h_q:q=1+(v%1048576)/8%12) {lo:Int} (h_lo:lo=1-(v%1048576)/4%2) {nn:Int} (h_nn:nn=10*n) {i2:Int} (h_i2:i2=1+ix) (hT:Ck 11 [oneA m 10 [⟨L0,0,0,0⟩,⟨L1,0,0,0⟩] (intsR b) r (rcsR rc) [] d,opAv 8 0 0 ((v%1048576)/4%2) lo q 0 0] (.tup [oneA m 10 [⟨L02,0,0,0⟩,⟨L12,0,0,0⟩] (intsR b2) r2 (rcsR rc2) [] d2,.i 0])) (hW:Ck 15 [oneA m 10 [⟨L02,0,0,0⟩,⟨L12,0,0,0⟩] (intsR b2) r2 (rcsR rc2) [] d2,.i 0,.i 0] (Lay.av ⟨n,nn,0⟩)) (hb0:b2[0]?=some nn) (hb8:b2[8]?=some 0) (hb6:b2[6]?=some 0) {A:Nat→Prop} {w0:World} {a0:Act} {mm:Nat→St} {w:World} {a:Act} {Φ:Post} (pr:@Pre bk0 ev0 A w0 a0 mm w a (headF z n ix) (hOf (headB (stR m L0 L1 b r rc d)))) (kk:∀mm w a,@Pre bk0 ev0 A w0 a0 mm w a (headF z n i2) (hOf (headB (stR m L02 L12 b2 r2 rc2 d2)))→Φ (xOf 0).to a w):cOde.wpIn (fw none) 9 Tryz.prog Φ a w:=by
 have:=hv.lo
 have:=hv.hi
 have hK:=Int.emod_nonneg v (show(1048576:Int)≠0 by decide)
 have hK2:=Int.emod_lt_of_pos v (show(0:Int)<1048576 by decide)
 obtain⟨ρ,hρ⟩:=rh [n,ix,(z.length:Int),v,(v%1048576),((v%1048576)%4),((v%1048576)/8),((v%1048576)/8%12),((v%1048576)/4),((v%1048576)/4%2)]
 obtain rfl:=eqv hρ h_q [([],1),([7],1)]
 obtain rfl:=eqv hρ h_lo [([],1),([9],-1)]
 obtain rfl:=eqv hρ h_nn [([0],10)]
 obtain rfl:=eqv hρ h_i2 [([],1),([1],1)]
 subst hρ
 let ev:=evS b_MO [n,ix,(z.length:Int),v,(v%1048576),((v%1048576)%4),((v%1048576)/8),((v%1048576)/8%12),((v%1048576)/4),((v%1048576)/4%2)] [.int .i64 m,.int .i64 d,.int .i64 d2] [intsR z,laysR L0,laysR L1,intsR b,rollsR [r],rcsR rc,laysR L02,laysR L12,intsR b2,rollsR [r2],rcsR rc2] BndL.nil.c.c.c.c.c.c.c.c.c.c FctL.nil.c LenL.nil.c.c (.d (aI hx) (.d (az hb0) (.d (aK hb8) (.d (aK hb6) .nil)))) (.rem (rem_def (pv_get _ _) (pv_get _ _) (pv_lit _ _) (show(0:Int)≤(v%1048576)by omega) rfl) (.quo (quo_def (pv_get _ _) (pv_get _ _) (pv_lit _ _) (show(0:Int)≤(v%1048576)by omega) rfl) (.rem (rem_def (pv_get _ _) (pv_get _ _) (pv_lit _ _) (show(0:Int)≤((v%1048576)/8)by omega) rfl) (.quo (quo_def (pv_get _ _) (pv_get _ _) (pv_lit _ _) (show(0:Int)≤(v%1048576)by omega) rfl) (.rem (rem_def (pv_get _ _) (pv_get _ _) (pv_lit _ _) (show(0:Int)≤((v%1048576)/4)by omega) rfl) (.nil))))))
 have hX:@ExtOk b_MO ev Tryz.prog:=⟨exNil b_MO ev,yeNil b_MO ev,kc (ck_Place v 1048576) (kc hT (kc hW kn))⟩
 obtain⟨m1,pr⟩:=pre_in _ ev (f:=fi_MO) (bs:=bi_MO) pr rfl rfl rfl
 refine run_done _ ev hX (L:=100000) (d:=60) (k:=100) (N:=142) (n:=1) o ho hs (by decide) pr ?_
 intro mm w a pr
 obtain⟨m2,pr⟩:=shorter _ ev pr hk rfl
 obtain⟨m3,pr⟩:=pre_out _ ev pr rfl
 exact kk _ _ _ pr
abbrev b_ME:Bk:={ vars:=[(0,1000),(0,59),(0,9223372036854775807),w64,(0,1048575),(2,3),(0,131071),(0,11),(0,262143),(0,1),(1,20)],facts:=[([([1],-1),([2],1)],1,9223372036854775807)],defs:=[(1,[([4],1)],[([],4)],[([5],1)]),(0,[([4],1)],[([],8)],[([6],1)]),(1,[([6],1)],[([],12)],[([7],1)]),(0,[([4],1)],[([],4)],[([8],1)]),(1,[([8],1)],[([],2)],[([9],1)])],lens:=[(0,[([2],1)]),(3,[([],17)])],ats:=[(0,[([1],1)],[.v 3]),(3,[],[(.e [([0],10)])]),(3,[([],8)],[.i 0]),(3,[([],6)],[.i 0])],extV:=[(9,[.v 3,.i 1048576],(.v 4)),
 (11,[(.agg [.i 1,.i 4,(.lit 1 [[.i 1]]),(.lit 1 [[(.lit 1 [[.o 0]])]]),(.lit 1 [[(.lit 1 [[.i 10]])]]),(.lit 8 [[.i 1,(.c (.bool false)),(.lit 4 [[.q 3 1,.i 0,.i 0,.i 0],[.q 3 2,.i 0,.i 0,.i 0]]),.q 1 3,.q 11 4,(.lit 1 [[(.i (-1))]]),(.lit 1 [[.i 0]]),(.lit 8 [])]]),.q 8 5,(.lit 9 []),(.lit 6 []),.o 1]),(.agg [.i 8,.i 0,.i 0,.v 9,(.e [([],1),([9],-1)]),(.e [([],1),([7],1)]),.i 0,.i 0,.emp])],(.tup [(.agg [.i 1,.i 4,(.lit 1 [[.i 1]]),(.lit 1 [[(.lit 1 [[.o 0]])]]),(.lit 1 [[(.lit 1 [[.i 10]])]]),(.lit 8 [[.i 1,(.c (.bool false)),(.lit 4 [[.q 3 1,.i 0,.i 0,.i 0],[.q 3 2,.i 0,.i 0,.i 0]]),.q 1 3,.q 11 4,(.lit 1 [[(.i (-1))]]),(.lit 1 [[.i 0]]),(.lit 8 [])]]),.q 8 5,(.lit 9 []),(.lit 6 []),.o 1]),.v 10])),
 (15,[(.agg [.i 1,.i 4,(.lit 1 [[.i 1]]),(.lit 1 [[(.lit 1 [[.o 0]])]]),(.lit 1 [[(.lit 1 [[.i 10]])]]),(.lit 8 [[.i 1,(.c (.bool false)),(.lit 4 [[.q 3 1,.i 0,.i 0,.i 0],[.q 3 2,.i 0,.i 0,.i 0]]),.q 1 3,.q 11 4,(.lit 1 [[(.i (-1))]]),(.lit 1 [[.i 0]]),(.lit 8 [])]]),.q 8 5,(.lit 9 []),(.lit 6 []),.o 1]),.i 0,.i 0],(.agg [.v 0,(.e [([0],10)]),.i 0]))] }
def fi_ME:List AV:=[.junk,.q 1 0,.junk,.junk,(.c (.bool false)),.junk,(.ptr 10 0 0 0),.v 0,.v 1]++List.replicate 133 .junk
def bi_ME:List Mc.Blk:=[.cells 33 10 [[.i 1,.i 4,(.lit 1 [[.i 1]]),(.lit 1 [[(.lit 1 [[.o 0]])]]),(.lit 1 [[(.lit 1 [[.i 10]])]]),(.lit 8 [[.i 1,(.c (.bool false)),(.lit 4 [[.q 3 1,.i 0,.i 0,.i 0],[.q 3 2,.i 0,.i 0,.i 0]]),.q 1 3,.q 11 4,(.lit 1 [[(.i (-1))]]),(.lit 1 [[.i 0]]),(.lit 8 [])]]),.q 8 5,(.lit 9 []),(.lit 6 []),.o 1]]]
noncomputable def s_ME:Option (RT Out):=rnA b_ME (oCode s_A) 142 fi_ME bi_ME 1
theorem end_ME:doneB s_ME 0=true:=by decide +kernel
def fo_ME:List AV:=[.junk,.q 1 0,.junk,.junk,(.c (.bool false)),.junk,(.ptr 10 0 0 0),.v 0,(.e [([],1),([1],1)])]++List.replicate 133 .junk
def bo_ME:List Mc.Blk:=[.cells 33 10 [[.i 1,.i 4,(.lit 1 [[.i 1]]),(.lit 1 [[(.lit 1 [[.o 0]])]]),(.lit 1 [[(.lit 1 [[.i 10]])]]),(.lit 8 [[.i 1,(.c (.bool false)),(.lit 4 [[.q 3 1,.i 0,.i 0,.i 0],[.q 3 2,.i 0,.i 0,.i 0]]),.q 1 3,.q 11 4,(.lit 1 [[(.i (-1))]]),(.lit 1 [[.i 0]]),(.lit 8 [])]]),.q 8 5,(.lit 9 []),(.lit 6 []),.o 1]]]
theorem look_ME:lK [some 0] s_ME fo_ME bo_ME=true:=by decide +kernel
set_option maxHeartbeats 2000000 in
theorem go_ME (cOde:Code) (o:Option (RT Out)) (ho:rnA b_ME cOde 142 fi_ME bi_ME 1=o) (hs:doneB o 0=true) (hk:lK [some 0] o fo_ME bo_ME=true) {m n ix v d f:Int} {z:List Int} {L0 L1:List Lay} {b r:List Int} {rc:List RcD} (hn:0≤n∧n≤1000) (hi:0≤ix∧ix≤59) (hil:ix<z.length) (hz:z.length≤9223372036854775807) (hv:I64 v) (hx:z[ix.toNat]?=some v) (hpar:2≤(v%1048576)%4) (hf:1≤f∧f≤20) (hbl:b.length=17) {q:Int} (h_q:q=1+(v%1048576)/8%12) {lo:Int} (h_lo:lo=1-(v%1048576)/4%2) {nn:Int} (h_nn:nn=10*n) {i2:Int} (h_i2:i2=1+ix) (hT:Ck 11 [oneA m 10 [⟨L0,0,0,0⟩,⟨L1,0,0,0⟩] (intsR b) r (rcsR rc) [] d,opAv 8 0 0 ((v%1048576)/4%2) lo q 0 0] (.tup [oneA m 10 [⟨L0,0,0,0⟩,⟨L1,0,0,0⟩] (intsR b) r (rcsR rc) [] d,.i f])) (hW:Ck 15 [oneA m 10 [⟨L0,0,0,0⟩,⟨L1,0,0,0⟩] (intsR b) r (rcsR rc) [] d,.i 0,.i 0] (Lay.av ⟨n,nn,0⟩)) (hb0:b[0]?=some nn) (hb8:b[8]?=some 0) (hb6:b[6]?=some 0) {A:Nat→Prop} {w0:World} {a0:Act} {mm:Nat→St} {w:World} {a:Act} {Φ:Post} (pr:@Pre bk0 ev0 A w0 a0 mm w a (headF z n ix) (hOf (headB (stR m L0 L1 b r rc d)))) (kk:∀mm w a,@Pre bk0 ev0 A w0 a0 mm w a (headF z n i2) (hOf (headB (stR m L0 L1 b r rc d)))→Φ (xOf 0).to a w):cOde.wpIn (fw none) 9 Tryz.prog Φ a w:=by
 have:=hv.lo
 have:=hv.hi
 have hK:=Int.emod_nonneg v (show(1048576:Int)≠0 by decide)
 have hK2:=Int.emod_lt_of_pos v (show(0:Int)<1048576 by decide)
 obtain⟨ρ,hρ⟩:=rh [n,ix,(z.length:Int),v,(v%1048576),((v%1048576)%4),((v%1048576)/8),((v%1048576)/8%12),((v%1048576)/4),((v%1048576)/4%2),f]
 obtain rfl:=eqv hρ h_q [([],1),([7],1)]
 obtain rfl:=eqv hρ h_lo [([],1),([9],-1)]
 obtain rfl:=eqv hρ h_nn [([0],10)]
 obtain rfl:=eqv hρ h_i2 [([],1),([1],1)]
 subst hρ
 let ev:=evS b_ME [n,ix,(z.length:Int),v,(v%1048576),((v%1048576)%4),((v%1048576)/8),((v%1048576)/8%12),((v%1048576)/4),((v%1048576)/4%2),f] [.int .i64 m,.int .i64 d] [intsR z,laysR L0,laysR L1,intsR b,rollsR [r],rcsR rc] BndL.nil.c.c.c.c.c.c.c.c.c.c.c FctL.nil.c LenL.nil.c.c (.d (aI hx) (.d (az hb0) (.d (aK hb8) (.d (aK hb6) .nil)))) (.rem (rem_def (pv_get _ _) (pv_get _ _) (pv_lit _ _) (show(0:Int)≤(v%1048576)by omega) rfl) (.quo (quo_def (pv_get _ _) (pv_get _ _) (pv_lit _ _) (show(0:Int)≤(v%1048576)by omega) rfl) (.rem (rem_def (pv_get _ _) (pv_get _ _) (pv_lit _ _) (show(0:Int)≤((v%1048576)/8)by omega) rfl) (.quo (quo_def (pv_get _ _) (pv_get _ _) (pv_lit _ _) (show(0:Int)≤(v%1048576)by omega) rfl) (.rem (rem_def (pv_get _ _) (pv_get _ _) (pv_lit _ _) (show(0:Int)≤((v%1048576)/4)by omega) rfl) (.nil))))))
 have hX:@ExtOk b_ME ev Tryz.prog:=⟨exNil b_ME ev,yeNil b_ME ev,kc (ck_Place v 1048576) (kc hT (kc hW kn))⟩
 obtain⟨m1,pr⟩:=pre_in _ ev (f:=fi_ME) (bs:=bi_ME) pr rfl rfl rfl
 refine run_done _ ev hX (L:=100000) (d:=60) (k:=100) (N:=142) (n:=1) o ho hs (by decide) pr ?_
 intro mm w a pr
 obtain⟨m2,pr⟩:=shorter _ ev pr hk rfl
 obtain⟨m3,pr⟩:=pre_out _ ev pr rfl
 exact kk _ _ _ pr
abbrev b_X:Bk:={ vars:=[(0,60),(0,9223372036854775807)],facts:=[([([0],1),([1],-1)],0,100)],lens:=[(0,[([1],1)])] }
def fi_X:List AV:=[.junk,.q 1 0,.junk,.junk,(.c (.bool false)),.junk,(.ptr 10 0 0 0),.o 0,.v 0]++List.replicate 133 .junk
def bi_X:List Mc.Blk:=[.cells 33 10 [[.i 1,.i 4,(.lit 1 [[.i 1]]),(.lit 1 [[(.lit 1 [[.o 1]])]]),(.lit 1 [[(.lit 1 [[.i 10]])]]),(.lit 8 [[.i 1,(.c (.bool false)),(.lit 4 [[.q 3 1,.i 0,.i 0,.i 0],[.q 3 2,.i 0,.i 0,.i 0]]),.q 1 3,.q 11 4,(.lit 1 [[(.i (-1))]]),(.lit 1 [[.i 0]]),(.lit 8 [])]]),.q 8 5,(.lit 9 []),(.lit 6 []),.o 2]]]
noncomputable def s_X:Option (RT Out):=rnA b_X (oCode s_A) 142 fi_X bi_X 1
theorem end_X:doneB s_X 2=true:=by decide +kernel
def fo_X:List AV:=[.junk,.q 1 0,.junk,.junk,(.c (.bool false)),.junk,(.ptr 10 0 0 0),.o 0,.v 0]++List.replicate 133 .junk
def bo_X:List Mc.Blk:=[.cells 33 10 [[.i 1,.i 4,(.lit 1 [[.i 1]]),(.lit 1 [[(.lit 1 [[.o 1]])]]),(.lit 1 [[(.lit 1 [[.i 10]])]]),(.lit 8 [[.i 1,(.c (.bool false)),(.lit 4 [[.q 3 1,.i 0,.i 0,.i 0],[.q 3 2,.i 0,.i 0,.i 0]]),.q 1 3,.q 11 4,(.lit 1 [[(.i (-1))]]),(.lit 1 [[.i 0]]),(.lit 8 [])]]),.q 8 5,(.lit 9 []),(.lit 6 []),.o 2]]]
theorem look_X:lK [some 0] s_X fo_X bo_X=true:=by decide +kernel
set_option maxHeartbeats 2000000 in
theorem go_X (cOde:Code) (o:Option (RT Out)) (ho:rnA b_X cOde 142 fi_X bi_X 1=o) (hs:doneB o 2=true) (hk:lK [some 0] o fo_X bo_X=true) {m n ix d:Int} {z:List Int} {L0 L1:List Lay} {b r:List Int} {rc:List RcD} (hi:0≤ix∧ix≤60) (hz:z.length≤9223372036854775807) (hil:(z.length:Int)≤ix) {A:Nat→Prop} {w0:World} {a0:Act} {mm:Nat→St} {w:World} {a:Act} {Φ:Post} (pr:@Pre bk0 ev0 A w0 a0 mm w a (headF z n ix) (hOf (headB (stR m L0 L1 b r rc d)))) (kk:∀mm w a,@Pre bk0 ev0 A w0 a0 mm w a (headF z n ix) (hOf (headB (stR m L0 L1 b r rc d)))→Φ (xOf 2).to a w):cOde.wpIn (fw none) 9 Tryz.prog Φ a w:=by
 let ev:=evS b_X [ix,(z.length:Int)] [.int .i64 n,.int .i64 m,.int .i64 d] [intsR z,laysR L0,laysR L1,intsR b,rollsR [r],rcsR rc] BndL.nil.c.c FctL.nil.c LenL.nil.c (.nil)
 have hX:@ExtOk b_X ev Tryz.prog:=⟨exNil b_X ev,yeNil b_X ev,kn⟩
 obtain⟨m1,pr⟩:=pre_in _ ev (f:=fi_X) (bs:=bi_X) pr rfl rfl rfl
 refine run_done _ ev hX (L:=100000) (d:=60) (k:=100) (N:=142) (n:=1) o ho hs (by decide) pr ?_
 intro mm w a pr
 obtain⟨m2,pr⟩:=shorter _ ev pr hk rfl
 obtain⟨m3,pr⟩:=pre_out _ ev pr rfl
 exact kk _ _ _ pr
abbrev b_Xr:Bk:={ vars:=[(0,60),(0,9223372036854775807)],facts:=[([([0],1),([1],-1)],0,100)],yes:=[13],lens:=[(0,[([1],1)])] }
def fi_Xr:List AV:=[.junk,.q 1 0,.junk,.junk,(.c (.bool false)),.junk,(.ptr 10 0 0 0),.o 0,.v 0]++List.replicate 133 .junk
def bi_Xr:List Mc.Blk:=[.cells 33 10 [[.i 1,.i 4,(.lit 1 [[.i 1]]),(.lit 1 [[(.lit 1 [[.o 1]])]]),(.lit 1 [[(.lit 1 [[.i 10]])]]),(.lit 8 [[.i 1,(.c (.bool false)),(.lit 4 [[.q 3 1,.i 0,.i 0,.i 0],[.q 3 2,.i 0,.i 0,.i 0]]),.q 1 3,.q 11 4,(.lit 1 [[(.i (-1))]]),(.lit 1 [[.i 0]]),(.lit 8 [])]]),.q 8 5,(.lit 9 []),(.lit 6 []),.o 2]]]
noncomputable def s_Xr:Option (RT Out):=rsA b_Xr s_A 0 142 fi_Xr bi_Xr 1
theorem end_Xr:doneB s_Xr 1=true:=by decide +kernel
theorem res_Xr:resultsA Tryz.prog Tryz.f5 (lOf s_Xr) (oT s_Xr).get=some (.c (.bool true)):=by kernel_rfl
set_option maxHeartbeats 2000000 in
theorem go_Xr (oA:Option (RT Out)) (o:Option (RT Out)) (ho:rsA b_Xr oA 0 142 fi_Xr bi_Xr 1=o) (hs:doneB o 1=true) (hk:resultsA Tryz.prog Tryz.f5 (lOf o) (oT o).get=some (.c (.bool true))) {m n ix d:Int} {z:List Int} {L0 L1:List Lay} {b r:List Int} {rc:List RcD} (hi:0≤ix∧ix≤60) (hz:z.length≤9223372036854775807) (hil:(z.length:Int)≤ix) {A:Nat→Prop} {w0:World} {a0:Act} {mm:Nat→St} {w:World} {a:Act} (pr:@Pre bk0 ev0 A w0 a0 mm w a (headF z n ix) (hOf (headB (stR m L0 L1 b r rc d)))):KS Tryz.prog (oK oA) (Fin Tryz.prog Tryz.f5 A w0 a0 (.c (.bool true))) (AX.exit 0).to a w:=by
 let ev:=evS b_Xr [ix,(z.length:Int)] [.int .i64 n,.int .i64 m,.int .i64 d] [intsR z,laysR L0,laysR L1,intsR b,rollsR [r],rcsR rc] BndL.nil.c.c FctL.nil.c LenL.nil.c (.nil)
 have hX:@ExtOk b_Xr ev Tryz.prog:=⟨exNil b_Xr ev,yeCons b_Xr ev tl_awake (yeNil b_Xr ev),kn⟩
 obtain⟨m1,pr⟩:=pre_in _ ev (f:=fi_Xr) (bs:=bi_Xr) pr rfl rfl rfl
 refine res_done _ ev hX (L:=100000) (d:=60) (N:=142) (n:=1) o ho hs (by decide) pr ?_
 intro mm w a pr
 exact⟨.inr rfl,b_Xr,ev,mm,lOf o,(oT o).get,.c (.bool true),.c (.bool true),[],pr,hk,rfl,rfl⟩
abbrev b_Y:Bk:={ vars:=[(60,60),(0,9223372036854775807)],facts:=[([([0],-1),([1],1)],1,9223372036854775807)],lens:=[(0,[([1],1)])] }
def fi_Y:List AV:=[.junk,.q 1 0,.junk,.junk,(.c (.bool false)),.junk,(.ptr 10 0 0 0),.o 0,.v 0]++List.replicate 133 .junk
def bi_Y:List Mc.Blk:=[.cells 33 10 [[.i 1,.i 4,(.lit 1 [[.i 1]]),(.lit 1 [[(.lit 1 [[.o 1]])]]),(.lit 1 [[(.lit 1 [[.i 10]])]]),(.lit 8 [[.i 1,(.c (.bool false)),(.lit 4 [[.q 3 1,.i 0,.i 0,.i 0],[.q 3 2,.i 0,.i 0,.i 0]]),.q 1 3,.q 11 4,(.lit 1 [[(.i (-1))]]),(.lit 1 [[.i 0]]),(.lit 8 [])]]),.q 8 5,(.lit 9 []),(.lit 6 []),.o 2]]]
noncomputable def s_Y:Option (RT Out):=rnA b_Y (oCode s_A) 142 fi_Y bi_Y 1
theorem end_Y:doneB s_Y 2=true:=by decide +kernel
def fo_Y:List AV:=[.junk,.q 1 0,.junk,.junk,(.c (.bool false)),.junk,(.ptr 10 0 0 0),.o 0,.v 0]++List.replicate 133 .junk
def bo_Y:List Mc.Blk:=[.cells 33 10 [[.i 1,.i 4,(.lit 1 [[.i 1]]),(.lit 1 [[(.lit 1 [[.o 1]])]]),(.lit 1 [[(.lit 1 [[.i 10]])]]),(.lit 8 [[.i 1,(.c (.bool false)),(.lit 4 [[.q 3 1,.i 0,.i 0,.i 0],[.q 3 2,.i 0,.i 0,.i 0]]),.q 1 3,.q 11 4,(.lit 1 [[(.i (-1))]]),(.lit 1 [[.i 0]]),(.lit 8 [])]]),.q 8 5,(.lit 9 []),(.lit 6 []),.o 2]]]
theorem look_Y:lK [some 0] s_Y fo_Y bo_Y=true:=by decide +kernel
set_option maxHeartbeats 2000000 in
theorem go_Y (cOde:Code) (o:Option (RT Out)) (ho:rnA b_Y cOde 142 fi_Y bi_Y 1=o) (hs:doneB o 2=true) (hk:lK [some 0] o fo_Y bo_Y=true) {m n ix d:Int} {z:List Int} {L0 L1:List Lay} {b r:List Int} {rc:List RcD} (hi:0≤ix∧ix≤60) (hz:z.length≤9223372036854775807) (hil:ix<z.length) (hi60:ix=60) {A:Nat→Prop} {w0:World} {a0:Act} {mm:Nat→St} {w:World} {a:Act} {Φ:Post} (pr:@Pre bk0 ev0 A w0 a0 mm w a (headF z n ix) (hOf (headB (stR m L0 L1 b r rc d)))) (kk:∀mm w a,@Pre bk0 ev0 A w0 a0 mm w a (headF z n ix) (hOf (headB (stR m L0 L1 b r rc d)))→Φ (xOf 2).to a w):cOde.wpIn (fw none) 9 Tryz.prog Φ a w:=by
 let ev:=evS b_Y [ix,(z.length:Int)] [.int .i64 n,.int .i64 m,.int .i64 d] [intsR z,laysR L0,laysR L1,intsR b,rollsR [r],rcsR rc] BndL.nil.c.c FctL.nil.c LenL.nil.c (.nil)
 have hX:@ExtOk b_Y ev Tryz.prog:=⟨exNil b_Y ev,yeNil b_Y ev,kn⟩
 obtain⟨m1,pr⟩:=pre_in _ ev (f:=fi_Y) (bs:=bi_Y) pr rfl rfl rfl
 refine run_done _ ev hX (L:=100000) (d:=60) (k:=100) (N:=142) (n:=1) o ho hs (by decide) pr ?_
 intro mm w a pr
 obtain⟨m2,pr⟩:=shorter _ ev pr hk rfl
 obtain⟨m3,pr⟩:=pre_out _ ev pr rfl
 exact kk _ _ _ pr
abbrev b_Yr:Bk:={ vars:=[(60,60),(0,9223372036854775807)],facts:=[([([0],-1),([1],1)],1,9223372036854775807)],yes:=[13],lens:=[(0,[([1],1)])] }
def fi_Yr:List AV:=[.junk,.q 1 0,.junk,.junk,(.c (.bool false)),.junk,(.ptr 10 0 0 0),.o 0,.v 0]++List.replicate 133 .junk
def bi_Yr:List Mc.Blk:=[.cells 33 10 [[.i 1,.i 4,(.lit 1 [[.i 1]]),(.lit 1 [[(.lit 1 [[.o 1]])]]),(.lit 1 [[(.lit 1 [[.i 10]])]]),(.lit 8 [[.i 1,(.c (.bool false)),(.lit 4 [[.q 3 1,.i 0,.i 0,.i 0],[.q 3 2,.i 0,.i 0,.i 0]]),.q 1 3,.q 11 4,(.lit 1 [[(.i (-1))]]),(.lit 1 [[.i 0]]),(.lit 8 [])]]),.q 8 5,(.lit 9 []),(.lit 6 []),.o 2]]]
noncomputable def s_Yr:Option (RT Out):=rsA b_Yr s_A 0 142 fi_Yr bi_Yr 1
theorem end_Yr:doneB s_Yr 1=true:=by decide +kernel
theorem res_Yr:resultsA Tryz.prog Tryz.f5 (lOf s_Yr) (oT s_Yr).get=some (.c (.bool true)):=by kernel_rfl
set_option maxHeartbeats 2000000 in
theorem go_Yr (oA:Option (RT Out)) (o:Option (RT Out)) (ho:rsA b_Yr oA 0 142 fi_Yr bi_Yr 1=o) (hs:doneB o 1=true) (hk:resultsA Tryz.prog Tryz.f5 (lOf o) (oT o).get=some (.c (.bool true))) {m n ix d:Int} {z:List Int} {L0 L1:List Lay} {b r:List Int} {rc:List RcD} (hi:0≤ix∧ix≤60) (hz:z.length≤9223372036854775807) (hil:ix<z.length) (hi60:ix=60) {A:Nat→Prop} {w0:World} {a0:Act} {mm:Nat→St} {w:World} {a:Act} (pr:@Pre bk0 ev0 A w0 a0 mm w a (headF z n ix) (hOf (headB (stR m L0 L1 b r rc d)))):KS Tryz.prog (oK oA) (Fin Tryz.prog Tryz.f5 A w0 a0 (.c (.bool true))) (AX.exit 0).to a w:=by
 let ev:=evS b_Yr [ix,(z.length:Int)] [.int .i64 n,.int .i64 m,.int .i64 d] [intsR z,laysR L0,laysR L1,intsR b,rollsR [r],rcsR rc] BndL.nil.c.c FctL.nil.c LenL.nil.c (.nil)
 have hX:@ExtOk b_Yr ev Tryz.prog:=⟨exNil b_Yr ev,yeCons b_Yr ev tl_awake (yeNil b_Yr ev),kn⟩
 obtain⟨m1,pr⟩:=pre_in _ ev (f:=fi_Yr) (bs:=bi_Yr) pr rfl rfl rfl
 refine res_done _ ev hX (L:=100000) (d:=60) (N:=142) (n:=1) o ho hs (by decide) pr ?_
 intro mm w a pr
 exact⟨.inr rfl,b_Yr,ev,mm,lOf o,(oT o).get,.c (.bool true),.c (.bool true),[],pr,hk,rfl,rfl⟩
end Mv
end Go.Proofs.YtnalblnmplnhmaaGreat
