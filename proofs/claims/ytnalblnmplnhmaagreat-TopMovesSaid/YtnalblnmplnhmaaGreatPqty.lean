/-
 The law's own sum of a pool's quantities: its loop. (Printed by wip/mklaw.py out of wip/paths/qtylaw.py.)
-/
import Derived.Test.YtnalblnmplnhmaaGreatZ
set_option linter.unusedVariables false
set_option linter.unusedSimpArgs false
namespace Go.Proofs.YtnalblnmplnhmaaGreat
open Go.RowKit Mc
theorem gLaysAt {z:List Lay} {k:Nat} {x:Lay} (h:z[k]?=some x):(laysR z)[k]?=some [.i x.q,.i x.v,.i x.p]:=by
 rw[laysR,List.getElem?_map,h];rfl
namespace Qty
def headF (L:List Lay) (n i:Int):List AV:=[.junk,.junk,.c (.int .i64 0),.i n,.junk,.junk,.junk,.lit 3 (laysR L),.i (L.length:Int),.i i]++List.replicate 9 .junk
noncomputable def body:Code:=(Tryz.f17).body.getD .skip
set_option maxRecDepth 1000000
abbrev b_A:Bk:={ vars:=[(0,30)],lens:=[(0,[([0],1)])] }
def fi_A:List AV:=[(.agg [.q 3 0,.o 0,.o 1,.o 2])]++List.replicate 18 .undef
def bi_A:List Mc.Blk:=[]
noncomputable def s_A:Option (RT Out):=rnA b_A body 19 fi_A bi_A 0
theorem end_A:stopB s_A=true:=by decide +kernel
def fo_A:List AV:=[.junk,.junk,.i 0,.i 0,.junk,.junk,.junk,.q 3 0,.v 0,.i 0]++List.replicate 9 .junk
def bo_A:List Mc.Blk:=[]
theorem look_A:lK [] s_A fo_A bo_A=true:=by decide +kernel
set_option maxHeartbeats 2000000 in
theorem go_A (cOde:Code) (o:Option (RT Out)) (ho:rnA b_A cOde 19 fi_A bi_A 0=o) (hs:stopB o=true) (hk:lK [] o fo_A bo_A=true) {L:List Lay} {p0 p1 p2:Int} (hL:L.length≤30) {A:Nat→Prop} {w0:World} {a0:Act} {mm:Nat→St} {w:World} {a:Act} {Φ:Post} (pr:@Pre bk0 ev0 A w0 a0 mm w a ([PoolD.av ⟨L,p0,p1,p2⟩]++List.replicate 18 .undef) (hOf ([]))) (kk:∀mm w a,@Pre bk0 ev0 A w0 a0 mm w a (headF L 0 0) (hOf ([]))→(Code.loop (oCode o)).wpIn (fw none) 9 Tryz.prog (KS Tryz.prog (oK o) Φ) a w):cOde.wpIn (fw none) 9 Tryz.prog Φ a w:=by
 let ev:=evS b_A [(L.length:Int)] [.int .i64 p0,.int .i64 p1,.int .i64 p2] [laysR L] BndL.nil.c FctL.nil LenL.nil.c (.nil)
 have hX:@ExtOk b_A ev Tryz.prog:=⟨exNil b_A ev,yeNil b_A ev,kn⟩
 obtain⟨m1,pr⟩:=pre_in _ ev (f:=fi_A) (bs:=bi_A) pr rfl rfl rfl
 refine run_stop _ ev hX (L:=100000) (d:=60) (k:=100) (N:=19) (n:=0) o ho hs (by decide) pr ?_
 intro mm w a pr
 obtain⟨m2,pr⟩:=shorter _ ev pr hk rfl
 obtain⟨m3,pr⟩:=pre_out _ ev pr rfl
 exact kk _ _ _ pr
abbrev b_R:Bk:={ vars:=[(0,30),(0,1000000000000000000),(0,29),(0,1000000000000000000)],facts:=[([([0],1),([2],-1)],1,30)],lens:=[(0,[([0],1)])],ats:=[(0,[([2],1)],[.v 3,.o 0,.o 1])] }
def fi_R:List AV:=[.junk,.junk,.i 0,.v 1,.junk,.junk,.junk,.q 3 0,.v 0,.v 2]++List.replicate 9 .junk
def bi_R:List Mc.Blk:=[]
noncomputable def s_R:Option (RT Out):=rnA b_R (oCode s_A) 19 fi_R bi_R 0
theorem end_R:doneB s_R 0=true:=by decide +kernel
def fo_R:List AV:=[.junk,.junk,.i 0,(.e [([1],1),([3],1)]),.junk,.junk,.junk,.q 3 0,.v 0,(.e [([],1),([2],1)])]++List.replicate 9 .junk
def bo_R:List Mc.Blk:=[]
theorem look_R:lK [] s_R fo_R bo_R=true:=by decide +kernel
set_option maxHeartbeats 2000000 in
theorem go_R (cOde:Code) (o:Option (RT Out)) (ho:rnA b_R cOde 19 fi_R bi_R 0=o) (hs:doneB o 0=true) (hk:lK [] o fo_R bo_R=true) {L:List Lay} {n ix q v p:Int} (hL:L.length≤30) (hn:0≤n∧n≤1000000000000000000) (hq:0≤q∧q≤1000000000000000000) (hi:0≤ix) (hil:ix<L.length) (hx:L[ix.toNat]?=some ⟨q,v,p⟩) {n2:Int} (h_n2:n2=n+q) {i2:Int} (h_i2:i2=1+ix) {A:Nat→Prop} {w0:World} {a0:Act} {mm:Nat→St} {w:World} {a:Act} {Φ:Post} (pr:@Pre bk0 ev0 A w0 a0 mm w a (headF L n ix) (hOf ([]))) (kk:∀mm w a,@Pre bk0 ev0 A w0 a0 mm w a (headF L n2 i2) (hOf ([]))→Φ (xOf 0).to a w):cOde.wpIn (fw none) 9 Tryz.prog Φ a w:=by
 obtain⟨ρ,hρ⟩:=rh [(L.length:Int),n,ix,q]
 obtain rfl:=eqv hρ h_n2 [([1],1),([3],1)]
 obtain rfl:=eqv hρ h_i2 [([],1),([2],1)]
 subst hρ
 let ev:=evS b_R [(L.length:Int),n,ix,q] [.int .i64 v,.int .i64 p] [laysR L] BndL.nil.c.c.c.c FctL.nil.c LenL.nil.c (.d (at_eq (pv_get _ _) (gLaysAt hx)) .nil)
 have hX:@ExtOk b_R ev Tryz.prog:=⟨exNil b_R ev,yeNil b_R ev,kn⟩
 obtain⟨m1,pr⟩:=pre_in _ ev (f:=fi_R) (bs:=bi_R) pr rfl rfl rfl
 refine run_done _ ev hX (L:=100000) (d:=60) (k:=100) (N:=19) (n:=0) o ho hs (by decide) pr ?_
 intro mm w a pr
 obtain⟨m2,pr⟩:=shorter _ ev pr hk rfl
 obtain⟨m3,pr⟩:=pre_out _ ev pr rfl
 exact kk _ _ _ pr
abbrev b_X:Bk:={ vars:=[(0,30),(0,1000000000000000000),(0,30)],facts:=[([([0],1),([2],-1)],0,0)],lens:=[(0,[([0],1)])] }
def fi_X:List AV:=[.junk,.junk,.i 0,.v 1,.junk,.junk,.junk,.q 3 0,.v 0,.v 2]++List.replicate 9 .junk
def bi_X:List Mc.Blk:=[]
noncomputable def s_X:Option (RT Out):=rnA b_X (oCode s_A) 19 fi_X bi_X 0
theorem end_X:doneB s_X 2=true:=by decide +kernel
def fo_X:List AV:=[.junk,.junk,.i 0,.v 1,.junk,.junk,.junk,.q 3 0,.v 0,.v 2]++List.replicate 9 .junk
def bo_X:List Mc.Blk:=[]
theorem look_X:lK [] s_X fo_X bo_X=true:=by decide +kernel
set_option maxHeartbeats 2000000 in
theorem go_X (cOde:Code) (o:Option (RT Out)) (ho:rnA b_X cOde 19 fi_X bi_X 0=o) (hs:doneB o 2=true) (hk:lK [] o fo_X bo_X=true) {L:List Lay} {n ix:Int} (hL:L.length≤30) (hn:0≤n∧n≤1000000000000000000) (hi:ix=L.length) {A:Nat→Prop} {w0:World} {a0:Act} {mm:Nat→St} {w:World} {a:Act} {Φ:Post} (pr:@Pre bk0 ev0 A w0 a0 mm w a (headF L n ix) (hOf ([]))) (kk:∀mm w a,@Pre bk0 ev0 A w0 a0 mm w a (headF L n ix) (hOf ([]))→Φ (xOf 2).to a w):cOde.wpIn (fw none) 9 Tryz.prog Φ a w:=by
 let ev:=evS b_X [(L.length:Int),n,ix] [] [laysR L] BndL.nil.c.c.c FctL.nil.c LenL.nil.c (.nil)
 have hX:@ExtOk b_X ev Tryz.prog:=⟨exNil b_X ev,yeNil b_X ev,kn⟩
 obtain⟨m1,pr⟩:=pre_in _ ev (f:=fi_X) (bs:=bi_X) pr rfl rfl rfl
 refine run_done _ ev hX (L:=100000) (d:=60) (k:=100) (N:=19) (n:=0) o ho hs (by decide) pr ?_
 intro mm w a pr
 obtain⟨m2,pr⟩:=shorter _ ev pr hk rfl
 obtain⟨m3,pr⟩:=pre_out _ ev pr rfl
 exact kk _ _ _ pr
abbrev b_Xr:Bk:={ vars:=[(0,30),(0,1000000000000000000),(0,30)],facts:=[([([0],1),([2],-1)],0,0)],lens:=[(0,[([0],1)])] }
def fi_Xr:List AV:=[.junk,.junk,.i 0,.v 1,.junk,.junk,.junk,.q 3 0,.v 0,.v 2]++List.replicate 9 .junk
def bi_Xr:List Mc.Blk:=[]
noncomputable def s_Xr:Option (RT Out):=rsA b_Xr s_A 0 19 fi_Xr bi_Xr 0
theorem end_Xr:doneB s_Xr 1=true:=by decide +kernel
theorem res_Xr:resultsA Tryz.prog Tryz.f17 (lOf s_Xr) (oT s_Xr).get=some ((.e [([1],1)])):=by kernel_rfl
set_option maxHeartbeats 2000000 in
theorem go_Xr (oA:Option (RT Out)) (o:Option (RT Out)) (ho:rsA b_Xr oA 0 19 fi_Xr bi_Xr 0=o) (hs:doneB o 1=true) (hk:resultsA Tryz.prog Tryz.f17 (lOf o) (oT o).get=some ((.e [([1],1)]))) {L:List Lay} {n ix:Int} (hL:L.length≤30) (hn:0≤n∧n≤1000000000000000000) (hi:ix=L.length) {A:Nat→Prop} {w0:World} {a0:Act} {mm:Nat→St} {w:World} {a:Act} (pr:@Pre bk0 ev0 A w0 a0 mm w a (headF L n ix) (hOf ([]))):KS Tryz.prog (oK oA) (Fin Tryz.prog Tryz.f17 A w0 a0 (.i n)) (AX.exit 0).to a w:=by
 let ev:=evS b_Xr [(L.length:Int),n,ix] [] [laysR L] BndL.nil.c.c.c FctL.nil.c LenL.nil.c (.nil)
 have hX:@ExtOk b_Xr ev Tryz.prog:=⟨exNil b_Xr ev,yeNil b_Xr ev,kn⟩
 obtain⟨m1,pr⟩:=pre_in _ ev (f:=fi_Xr) (bs:=bi_Xr) pr rfl rfl rfl
 refine res_done _ ev hX (L:=100000) (d:=60) (N:=19) (n:=0) o ho hs (by decide) pr ?_
 intro mm w a pr
 exact⟨.inr rfl,b_Xr,ev,mm,lOf o,(oT o).get,.v 1,.v 1,[],pr,hk,rfl,rfl⟩
end Qty
end Go.Proofs.YtnalblnmplnhmaaGreat
