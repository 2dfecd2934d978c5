/-
 Vouchers: the questions asked of a line; the first line of which one is true; lines without those of which it is.
 Vouchers: the amounts together; lines without those of which something holds.
 The library's DeleteFunc at lines.
 A voucher, a line for each account: what comes of adding up lines that rise by account. No program in sight.
 voucher.Plain. Its walk.
 voucher.Check, voucher.Total; the document's example.
 Vouchers: the document's example; so many lines, amounts at the limit. The walks.
 VoucherLimits. Its walk.
-/
import Derived.Test.YtnalblnmplnhmaaGreatSort3
import Derived.Lib.SliceRun
set_option linter.unusedVariables false
set_option linter.unusedSimpArgs false
namespace Go.Proofs.YtnalblnmplnhmaaGreat
open Go.RowKit
def isAcc (a:Int):Bool:=decide (0≤a)&&decide (a<17)
theorem isAcc_iff {a:Int}:isAcc a=true↔0≤a∧a<17:=by simp[isAcc]
theorem vou_is (a:Int) (w:World):Calls Tryz.prog 143 #[.int .i64 a] w fun e w'=>e=.returned (.bool (isAcc a))∧w=w':=by
 by_cases h0:0≤a
 all_goals
  by_cases h1:a<17
  all_goals
   go_enter Tryz.func143,Tryz.ntmps143
   go_wp2_with fail
   go_ret
   exact⟨ret_bool (by simp[isAcc,h0,h1]),rfl⟩
theorem vou_in (v:Int) (w:World):Calls Tryz.prog 144 #[.int .i64 v] w fun e w'=>e=.returned (.bool (inB v))∧w=w':=by
 go_enter Tryz.func144,Tryz.ntmps144
 go_wp2
 all_goals (go_ret;exact⟨ret_bool (by simp[inB];try omega),rfl⟩)
structure Pred (F:FuncId) (p:Lin→Bool):Prop where
 ent:∀(args:Array Value) (W:World),(callFunc F args).run Tryz.prog W=.ok (.enter F args) W
 ask:∀(x:Lin) (W:World),Calls Tryz.prog F #[x.val] W fun e w'=>e=.returned (.bool (p x))∧Below W.heap.size W w'
def badP (x:Lin):Bool:=!(isAcc x.a)||!(inB x.n)
def badC (x:Lin):Bool:=!(isAcc x.a)||decide (x.n=0)||!(inB x.n)
def zeroN (x:Lin):Bool:=decide (x.n=0)
theorem pred_P1:Pred 142 badP:=by
 refine⟨fun args W=>by kernel_rfl,fun x W=>?_⟩
 unfold Lin.val
 cases h1:isAcc x.a
 all_goals
  cases h2:inB x.n
  all_goals
   go_enter Tryz.func142,Tryz.ntmps142
   go_wp2_with (first|(go_at_call 143;refine(vou_is _ _).mono ?_;rw[h1];rintro e w' ⟨rfl,rfl⟩)|(go_at_call 144;refine(vou_in _ _).mono ?_;rw[h2];rintro e w' ⟨rfl,rfl⟩))
   go_ret
   exact⟨ret_bool (by simp[badP,h1,h2]),by(repeat (first|assumption|exact Below.refl _ _|refine ballc ?_ _|refine bdrew ?_|refine bdrewN ?_ _|refine bset ?_ _ _|refine bsetN ?_ (by omega) _ _|refine bthen ?_ (by assumption)))⟩
theorem pred_C1:Pred 191 badC:=by
 refine⟨fun args W=>by kernel_rfl,fun x W=>?_⟩
 unfold Lin.val
 cases h1:isAcc x.a
 all_goals
  cases h2:inB x.n
  all_goals
   by_cases h3:x.n=0
   all_goals
    go_enter Tryz.func191,Tryz.ntmps191
    go_wp2_with (first|(go_at_call 143;refine(vou_is _ _).mono ?_;rw[h1];rintro e w' ⟨rfl,rfl⟩)|(go_at_call 144;refine(vou_in _ _).mono ?_;rw[h2];rintro e w' ⟨rfl,rfl⟩))
    go_ret
    exact⟨ret_bool (by simp[badC,h1,h2,h3]),by(repeat (first|assumption|exact Below.refl _ _|refine ballc ?_ _|refine bdrew ?_|refine bdrewN ?_ _|refine bset ?_ _ _|refine bsetN ?_ (by omega) _ _|refine bthen ?_ (by assumption)))⟩
theorem pred_P3:Pred 149 zeroN:=by
 refine⟨fun args W=>by kernel_rfl,fun x W=>?_⟩
 unfold Lin.val
 go_enter Tryz.func149,Tryz.ntmps149
 go_wp2_with fail
 go_ret
 exact⟨ret_bool (by rw[Bool.eq_iff_iff];simp[zeroN]),by(repeat (first|assumption|exact Below.refl _ _|refine ballc ?_ _|refine bdrew ?_|refine bdrewN ?_ _|refine bset ?_ _ _|refine bsetN ?_ (by omega) _ _|refine bthen ?_ (by assumption)))⟩
def idxP (p:Lin→Bool) (l:List Lin):Int:=match l.findIdx? p with|some i=>(i:Int)|none=>-1
theorem all_take2 {l:List Lin} {j:Nat} {x:Lin} {f:Lin→Bool} (hx:l[j]?=some x):(l.take (j+1)).all f=((l.take j).all f&&f x):=by
 rw[List.take_add_one,hx]
 simp
theorem idxP_at {p:Lin→Bool} {l:List Lin} {j:Nat} {x:Lin} (hx:l[j]?=some x) (hp:p x=true) (ht:(l.take j).all (fun y=>!p y)=true):idxP p l=j:=by
 have:l.findIdx? p=some j:=by
  rw[List.findIdx?_eq_some_iff_getElem]
  obtain⟨hj,rfl⟩:=List.getElem?_eq_some_iff.1 hx
  refine⟨hj,hp,fun i hi=>?_⟩
  have:=List.all_eq_true.1 ht l[i] (List.mem_take_iff_getElem.2 ⟨i,by omega,rfl⟩)
  simpa using this
 simp[idxP,this]
theorem idxP_none {p:Lin→Bool} {l:List Lin} (h:l.all (fun y=>!p y)=true):idxP p l=-1:=by
 have:l.findIdx? p=none:=by
  rw[List.findIdx?_eq_none_iff]
  intro x hx
  have:=List.all_eq_true.1 h x hx
  simpa using this
 simp[idxP,this]
theorem idx_func {F:FuncId} {p:Lin→Bool} (hF:Pred F p) (a:Option Addr) (cap:Nat) (l:List Lin) (w:World) (h:Row w 2 a l.length cap (flat2 l)) :
  Calls Tryz.prog 187 #[.slice a l.length cap,.func (.func F) #[] #[]] w fun e w'=>e=.returned (.int .i64 (idxP p l))∧Below w.heap.size w w':=by
 go_enter Tryz.func187,Tryz.ntmps187
 obtain⟨hl,hcap,hmax,hall,hat⟩:=h
 unfold maxLen at hmax
 have hent:=hF.ent
 have hFh:=Lib.hid hF.ask
 clear hF
 go_wp2_with fail
 go_loopw [8] (fun i wr=>∃j:Nat,j≤l.length∧i=.int .i64 j∧Hid ((l.take j).all (fun y=>!p y)=true)∧Below w.heap.size w wr) (fun i _=>l.length-(intOf i).toNat)
 case atStart=>exact⟨0,by omega,rfl,rfl,Below.refl _ _⟩
 case round =>
  obtain⟨j,hj,rfl,T,hbel⟩:=hrel
  have hsz:=hbel.size
  by_cases hlt:j<l.length
  ·obtain⟨b,off,rfl,hb,hc⟩:∃b off,a=some ⟨b,off,none⟩∧b<w.heap.size∧CellsAt w b off (flat2 l):=by
    rcases hat with h0|h0
    ·omega
    ·exact h0
   obtain⟨x,hx⟩:∃x,l[j]?=some x:=⟨l[j],by simp[hlt]⟩
   obtain⟨c0,c1⟩:=(hc.below hb hbel).line hx
   have hlt':(j:Int)<(l.length:Int):=by omega
   have hx:=Lib.hid hx
   clear hc hat
   go_wp2_with fail
   refine(hFh.out x _).mono ?_
   rintro e w1 ⟨rfl,hw1⟩
   cases hp:p x
   ·go_wp2_with fail
    case' roundEnd =>
     refine⟨⟨j+1,hlt,by simp,by rw[Hid,all_take2 hx.out,T.out,hp];rfl,hbel.trans (hw1.mono hsz)⟩,?_⟩
     simp[intOf]
     omega
   ·go_wp2_with fail
    go_ret
    exact⟨ret_int (idxP_at hx.out hp T.out).symm,hbel.trans (hw1.mono hsz)⟩
  ·have ej:j=l.length:=by omega
   subst ej
   have hge:¬ ((l.length:Int)<(l.length:Int)):=by omega
   go_wp2_with fail
   go_ret
   have T:=T.out
   rw[List.take_length]at T
   exact⟨ret_int (idxP_none T).symm,hbel⟩
theorem contains_func {F:FuncId} {p:Lin→Bool} (hF:Pred F p) (a:Option Addr) (cap:Nat) (l:List Lin) (w:World) (h:Row w 2 a l.length cap (flat2 l)) :
  Calls Tryz.prog 141 #[.slice a l.length cap,.func (.func F) #[] #[]] w fun e w'=>e=.returned (.bool (l.any p))∧Below w.heap.size w w':=by
 have hi:(decide (0≤idxP p l))=l.any p:=by
  unfold idxP
  cases he:l.findIdx? p with
  |none =>
   have:=List.findIdx?_eq_none_iff.1 he
   have h2:l.any p=false:=by rw[List.any_eq_false];intro x hx;simpa using this x hx
   rw[h2];rfl
  |some i =>
   obtain⟨hi,hp,-⟩:=List.findIdx?_eq_some_iff_getElem.1 he
   have h2:l.any p=true:=List.any_eq_true.2 ⟨l[i],List.getElem_mem hi,hp⟩
   rw[h2];simp
 have hih:=Lib.hid hi
 clear hi
 go_enter Tryz.func141,Tryz.ntmps141
 go_wp2_with fail
 refine(idx_func hF a cap l _ h).mono ?_
 rintro e w1 ⟨rfl,hw1⟩
 go_wp2_with fail
 go_ret
 exact⟨ret_bool hih.out,hw1⟩
end Go.Proofs.YtnalblnmplnhmaaGreat
set_option linter.unusedVariables false
set_option linter.unusedSimpArgs false
namespace Go.Proofs.YtnalblnmplnhmaaGreat
open Go.RowKit
theorem lit1 {w:World} {y:Int} {t n:Nat} (hn:n=w.heap.size):CellsAt (w.alloc (.cells #[.int .i64 y] t)) n 0 [y]:=by
 subst hn;exact CellsAt.new w [y] t
theorem lit2 {w:World} {x:Lin} {t n:Nat} (hn:n=w.heap.size):CellsAt (w.alloc (.cells #[.int .i64 x.a,.int .i64 x.n] t)) n 0 [x.a,x.n]:=by
 subst hn;exact CellsAt.new w [x.a,x.n] t
def amts (l:List Lin):List Int:=l.map (·.n)
set_option maxHeartbeats 1000000 in
theorem vou_sum (a:Option Addr) (cap:Nat) (l:List Lin) (w:World) (h:Row w 2 a l.length cap (flat2 l)) (hn:l.length≤1000) :
  Calls Tryz.prog 192 #[.slice a l.length cap] w fun e w'=>e=.returned (.tuple #[.int .i64 (sumV (amts l)),.int .i64 (sumE (amts l))])∧Below w.heap.size w w':=by
 obtain⟨hl,hcap,hmax,hall,hat⟩:=h
 unfold maxLen at hmax
 go_enter Tryz.func192,Tryz.ntmps192
 go_wp2
 go_loopw [4,9] (fun q i wr=>∃j:Nat,j≤l.length∧i=.int .i64 j∧OwnI wr w.heap.size 3 1 q j (amts (l.take j))∧Below w.heap.size w wr) (fun _ i _=>l.length-(intOf i).toNat)
 case atStart=>exact⟨0,by omega,rfl,OwnI.nil _ _ _ _,Below.refl _ _⟩
 case round =>
  obtain⟨j,hj,rfl,T,hbel⟩:=hrel
  have hsz:=hbel.size
  by_cases hlt:j<l.length
  ·obtain⟨b,off,rfl,hb,hc⟩:∃b off,a=some ⟨b,off,none⟩∧b<w.heap.size∧CellsAt w b off (flat2 l):=by
    rcases hat with h0|h0
    ·omega
    ·exact h0
   obtain⟨x,hx⟩:∃x,l[j]?=some x:=⟨l[j],by simp[hlt]⟩
   obtain⟨c0,c1⟩:=(hc.below hb hbel).line hx
   have hlt':(j:Int)<(l.length:Int):=by omega
   have hx:=Lib.hid hx
   clear hc hat
   go_wp2_with (at_builtin;refine wpList_push _ rfl _ _ 22 rfl w.heap.size 3 1 elem_Int u4 j (amts (l.take j)) rfl ((T.alloc _).alloc _) (wr.heap.size+1) 0 1 [x.n] rfl rfl (lit1 (y:=x.n) (by simp)) ?c1 ?c2 ?_)
   case c1=>omega
   case c2=>simp;omega
   ·intro l' w1 hown' hb1
    have e:amts (l.take j)++[x.n]=amts (l.take (j+1)):=by rw[List.take_add_one,hx.out];simp[amts]
    rw[e]at hown'
    have hs1:w.heap.size≤(wr.alloc (.cells #[.int .i64 x.a,.int .i64 x.n] 131)).heap.size:=by simp;omega
    have hbel':=((hbel.alloc hsz (.cells #[.int .i64 x.a,.int .i64 x.n] 131)).alloc hs1 _).trans hb1
    clear T hb1 e
    go_wp2
    go_roundw
    case rel=>exact⟨j+1,by omega,by go_num,hown',hbel'⟩
    case measure=>simp[intOf];omega
  ·have ej:j=l.length:=by omega
   subst ej
   have hge:¬ ((l.length:Int)<(l.length:Int)):=by omega
   rw[List.take_length]at T
   have hA:AllI (amts l):=by
    intro z hz
    obtain⟨x,hx,rfl⟩:=List.mem_map.1 hz
    exact(flat2_all hall hx).2
   obtain⟨l0,cp,rfl,hrow⟩:=T.row hA
   clear T
   go_wp2_with (go_at_call 60;refine(money_Sum _ _ _ _ _ hrow).mono ?_;rintro e w' ⟨rfl,rfl⟩)
   go_ret2
   exact⟨rfl,hbel⟩
theorem Keep.setCells {b:Nat} {u:World}:∀(vs:List Value) (o:Nat) (w:World),Keep b u w→Keep b u (w.setCells b o vs)
 |[],_,_,h=>h
 |v::r,o,w,h=>Keep.setCells r (o+1) _ (h.set o v)
theorem CellsAt.clear {w:World} {b off k:Nat} {zs:List Int} {vs:List Value} (h:CellsAt w b off zs) (hk:zs.length≤k):CellsAt (w.setCells b (off+k) vs) b off zs:=by
 intro i hi
 rw[World.cell?_setCells_out b vs (off+k) w ⟨b,off+i,none⟩ (fun _ _=>.inl (by simp only;omega))]
 exact h i hi
theorem run_clear_lines (w:World) (ty:TypeId) (hv:∀w,(zeroValue 131).run Tryz.prog w=.ok (.agg #[.int .i64 0,.int .i64 0]) w) (b o n c:Nat) (hn:0<n)
  (hc:∀j,j<n*2→(w.cell? ⟨b,o+j,none⟩).isSome=true) (hf:∀j,w.frozen? ⟨b,j,none⟩=false) :
  (Builtin.clear_ #[132] ty #[.slice (some ⟨b,o,none⟩) n c]).run Tryz.prog w=.ok (.tuple #[]) (w.setCells b o (List.replicate (n*2) (.int .i64 0))):=by
 have hzc:(Builtin.zeroCells (Value.agg #[.int .i64 0,.int .i64 0]).cells n).toList=List.replicate (n*2) (.int .i64 0):=by
  simp only[Builtin.zeroCells,Value.cells]
  apply List.ext_getElem
  ·simp
  ·intro i h1 h2
   simp
   rcases Nat.mod_two_eq_zero_or_one i with h|h<;>simp[h]
 have hst:=run_storeCells_cells (P:=Tryz.prog) b o (List.replicate (n*2) (.int .i64 0)) 0 w (by simpa using hc) (by intro j hj;exact hf _) (by intro v hv';rw[List.eq_of_mem_replicate hv'];rfl)
 simp only[Nat.add_zero]at hst
 obtain⟨m,rfl⟩:∃m,n=m+1:=⟨n-1,by omega⟩
 have ht:Tryz.prog.underlying 132=some (.slice 131):=by kernel_rfl
 simp[Builtin.clear_,run_underlying ht,hv,hzc,hst]
theorem zero_Line (w:World):(zeroValue 131).run Tryz.prog w=.ok (.agg #[.int .i64 0,.int .i64 0]) w:=by kernel_rfl
end Go.Proofs.YtnalblnmplnhmaaGreat
set_option linter.unusedVariables false
set_option linter.unusedSimpArgs false
namespace Go.Proofs.YtnalblnmplnhmaaGreat
open Go.RowKit
theorem filter_step {l L:List Lin} {q:Lin→Bool} {i j:Nat} {x:Lin} (hx:l[j]?=some x) (ht:L.take i=(l.take j).filter q) (hd:L.drop j=l.drop j) (hij:i<j) (hL:L.length=l.length) :
  (q x=false→L.take i=(l.take (j+1)).filter q∧L.drop (j+1)=l.drop (j+1)) ∧
  (q x=true→(L.set i x).take (i+1)=(l.take (j+1)).filter q∧(L.set i x).drop (j+1)=l.drop (j+1))∧j<l.length:=by
 have hj:j<l.length:=by
  rcases Nat.lt_or_ge j l.length with h|h
  ·exact h
  ·rw[List.getElem?_eq_none h]at hx;cases hx
 have hd':L.drop (j+1)=l.drop (j+1):=by
  have:=congrArg (List.drop 1) hd
  simpa[List.drop_drop,Nat.add_comm]using this
 have hf:(l.take (j+1)).filter q=(l.take j).filter q++[x].filter q:=by rw[List.take_add_one,hx,List.filter_append];rfl
 refine⟨fun h=>⟨by rw[hf,ht];simp[h],hd'⟩,fun h=>⟨?_,?_⟩,hj⟩
 ·rw[hf,←ht,List.take_add_one,List.getElem?_set_self (by omega)]
  simp[h,List.take_set]
  rw[List.set_eq_of_length_le (by simp;omega)]
 ·rw[List.drop_set]
  simp only[hd']
  split
  ·rfl
  ·omega
set_option maxRecDepth 20000 in
set_option maxHeartbeats 2000000 in
theorem delete_func {F:FuncId} {p:Lin→Bool} (hF:Pred F p) (b off cap:Nat) (l:List Lin) (w:World) (hcs:CellsAt w b off (flat2 l)) (hfz:∀i,w.frozen? ⟨b,i,none⟩=false) (hb:b<w.heap.size) (hn:l.length≤cap) (hm:cap≤maxLen) (hA:AllI (flat2 l)) :
  Calls Tryz.prog 148 #[.slice (some ⟨b,off,none⟩) l.length cap,.func (.func F) #[] #[]] w
   fun e w'=>e=.returned (.slice (some ⟨b,off,none⟩) (l.filter (fun x=>!p x)).length cap)∧CellsAt w' b off (flat2 (l.filter (fun x=>!p x)))∧Keep b w w':=by
 have hR:Row w 2 (some ⟨b,off,none⟩) l.length cap (flat2 l):=⟨flat2_len l,hn,hm,hA,.inr ⟨b,off,rfl,hb,hcs⟩⟩
 have hidx:=idx_func hF (some ⟨b,off,none⟩) cap l
 have hFh:=Lib.hid hF.ask
 have hent:=hF.ent
 clear hF
 obtain⟨n,hN⟩:∃n,l.length=n:=⟨_,rfl⟩
 rw[hN]at hn hR hidx ⊢
 have hNh:=Lib.hid hN
 unfold maxLen at hm
 go_enter Tryz.func148,Tryz.ntmps148
 cases hi:l.findIdx? p with
 |none =>
  have hno:idxP p l=-1:=by simp[idxP,hi]
  have hall:=List.findIdx?_eq_none_iff.1 hi
  have hfl:l.filter (fun x=>!p x)=l:=List.filter_eq_self.2 fun x hx=>by simp[hall x hx]
  clear hi hN
  go_wp2_with fail
  refine(hidx w hR).mono ?_
  rw[hno]
  rintro e w1 ⟨rfl,hw1⟩
  clear hno
  go_wp2_with fail
  go_ret
  rw[hfl]
  exact⟨by rw[hNh.out];rfl,hcs.below hb hw1,Keep.of hw1 hb⟩
 |some k =>
  obtain⟨hk,hpk,hbef⟩:=List.findIdx?_eq_some_iff_getElem.1 hi
  have hno:idxP p l=(k:Int):=by simp[idxP,hi]
  have hkn:k<n:=by omega
  have hkI:¬ (k:Int)=-1:=by omega
  have hkB:((k:Int)==-1)=false:=by simp
  have hf0:l.take k=(l.take (k+1)).filter (fun x=>!p x):=by
   rw[List.take_succ_eq_append_getElem hk,List.filter_append]
   have h1:(l.take k).filter (fun x=>!p x)=l.take k:=List.filter_eq_self.2 fun x hx=>by
    obtain⟨i,hi1,rfl⟩:=List.mem_take_iff_getElem.1 hx
    have:=hbef i (by omega)
    simpa using this
   rw[h1]
   simp[hpk]
  clear hi hbef hN hpk
  go_wp2_with fail
  refine(hidx w hR).mono ?_
  rw[hno]
  rintro e w1 ⟨rfl,hw1⟩
  have hcs1:=hcs.below hb hw1
  have hK1:=Keep.of hw1 hb
  clear hno hidx hR hw1
  go_wp2_with fail
  go_loopw [5,6] (fun i j wr=>∃(ki kj:Nat) (L:List Lin),i=.int .i64 (ki:Int)∧j=.int .i64 (kj:Int)∧ki<kj∧kj≤n∧Hid (L.length=n)∧Hid (L.take ki=(l.take kj).filter (fun x=>!p x))∧Hid (L.drop kj=l.drop kj)∧CellsAt wr b off (flat2 L)∧Keep b w wr) (fun _ j _=>n-(intOf j).toNat)
  case atStart=>exact⟨k,k+1,l,rfl,by go_num,by omega,by omega,hNh.out,hf0,rfl,hcs1,hK1⟩
  case round =>
   obtain⟨ki,kj,L,rfl,rfl,hij,hjn,hL,hT,hD,hC,hK⟩:=hrel
   have hfz1:∀i,wr.frozen? ⟨b,i,none⟩=false:=fun i=>(hK.froz i).trans (hfz i)
   have hb1:b<wr.heap.size:=Nat.lt_of_lt_of_le hb hK.size
   by_cases hlt:kj<n
   ·have hltI:(kj:Int)<(n:Int):=by omega
    obtain⟨x,hx⟩:∃x,l[kj]?=some x:=⟨l[kj]'(by rw[hNh.out];omega),by simp[hNh.out,hlt]⟩
    have hxL:L[kj]?=some x:=by
     have:=congrArg List.head? hD.out
     rw[List.head?_drop,List.head?_drop,hx]at this
     exact this
    obtain⟨f1,f2,-⟩:=filter_step hx hT.out hD.out hij (by rw[hL.out,hNh.out])
    obtain⟨c0,c1⟩:=hC.line hxL
    have hxh:=Lib.hid hx
    have f1h:=Lib.hid f1
    have f2h:=Lib.hid f2
    have hxLh:=Lib.hid hxL
    clear hx f1 f2 hxL
    go_wp2_with fail
    refine(hFh.out x _).mono ?_
    rintro e w2 ⟨rfl,hw2⟩
    have hC2:=hC.below hb1 (show Below wr.heap.size wr w2 by(repeat (first|assumption|exact Below.refl _ _|refine ballc ?_ _|refine bdrew ?_|refine bdrewN ?_ _|refine bset ?_ _ _|refine bsetN ?_ (by omega) _ _|refine bthen ?_ (by assumption))))
    have hK2:=hK.then (show Below wr.heap.size wr w2 by(repeat (first|assumption|exact Below.refl _ _|refine ballc ?_ _|refine bdrew ?_|refine bdrewN ?_ _|refine bset ?_ _ _|refine bsetN ?_ (by omega) _ _|refine bthen ?_ (by assumption)))) hb
    have v0:w2.cell? ⟨wr.heap.size,0,none⟩=some (.int .i64 x.a):=(hw2.cell (by simp)).trans (by simp)
    have v1:w2.cell? ⟨wr.heap.size,1,none⟩=some (.int .i64 x.n):=(hw2.cell (by simp)).trans (by simp)
    cases hp:p x
    ·have f:=f2h.out (by simp[hp])
     have fh:=Lib.hid f
     clear f
     have hkiI:(ki:Int)<(n:Int):=by omega
     have g0:=hC2.line (j:=ki) (x:=L[ki]'(by rw[hL.out];omega)) (by simp[hL.out])
     have g1:∀i,w2.frozen? ⟨b,i,none⟩=false:=fun i=>(hK2.froz i).trans (hfz i)
     have hset:=set2_line hC2 (i:=ki) (by rw[hL.out];omega) x
     have hKs:=hK2.set2 (off+ki*2) x
     obtain⟨g2,g3⟩:=g0
     go_wp2_with fail
     case' roundEnd =>
      refine⟨⟨ki+1,kj+1,L.set ki x,by go_num,by go_num,by omega,by omega,by rw[Hid,List.length_set];exact hL.out,fh.out.1,fh.out.2,hset,hKs⟩,?_⟩
      simp[intOf]
      omega
    ·have f:=f1h.out (by simp[hp])
     have fh:=Lib.hid f
     clear f
     go_wp2_with fail
     case' roundEnd =>
      refine⟨⟨ki,kj+1,L,rfl,by go_num,by omega,by omega,hL,fh.out.1,fh.out.2,hC2,hK2⟩,?_⟩
      simp[intOf]
      omega
   ·have hkj:kj=n:=by omega
    subst hkj
    have hge:¬ (kj:Int)<(kj:Int):=by omega
    have hkiI:(ki:Int)≤(kj:Int):=by omega
    have hne:¬ cap=ki:=by omega
    have hkc:ki≤cap:=by omega
    have hkcI:(ki:Int)≤(cap:Int):=by omega
    have hTl:L.take ki=l.filter (fun x=>!p x):=by rw[hT.out,List.take_of_length_le (by rw[hNh.out];omega)]
    have hlen:(l.filter (fun x=>!p x)).length=ki:=by rw[←hTl,List.length_take,hL.out];omega
    have hcl:∀ty,(Builtin.clear_ #[132] ty #[.slice (some ⟨b,off+ki*2,none⟩) (kj-ki) (cap-ki)]).run Tryz.prog wr=.ok (.tuple #[]) (wr.setCells b (off+ki*2) (List.replicate ((kj-ki)*2) (.int .i64 0))):=fun ty =>
     run_clear_lines wr ty zero_Line b (off+ki*2) (kj-ki) (cap-ki) (by omega) (fun j hj=>by rw[show off+ki*2+j=off+(ki*2+j)by omega,hC (ki*2+j) (by rw[flat2_len,hL.out];omega)];rfl) hfz1
    have hCk:CellsAt wr b off (flat2 (L.take ki)):=by
     refine CellsAt.of_lines fun j x hx=>?_
     have hj:j<ki:=by
      rcases Nat.lt_or_ge j ki with h|h
      ·exact h
      ·rw[List.getElem?_eq_none (by rw[List.length_take];omega)]at hx;cases hx
     rw[List.getElem?_take_of_lt hj]at hx
     exact hC.line hx
    rw[hTl]at hCk
    have hCe:=hCk.clear (k:=ki*2) (vs:=List.replicate ((kj-ki)*2) (.int .i64 0)) (by rw[flat2_len,hlen];omega)
    have hKe:=hK.setCells (List.replicate ((kj-ki)*2) (.int .i64 0)) (off+ki*2)
    have hlh:=Lib.hid hlen
    clear hlen hTl
    go_wp2_with fail
    go_ret
    exact⟨by rw[hlh.out];rfl,hCe,hKe⟩
end Go.Proofs.YtnalblnmplnhmaaGreat
set_option linter.unusedVariables false
set_option linter.unusedSimpArgs false
namespace Go.Proofs.YtnalblnmplnhmaaGreat
def accA (l:List Lin) (a:Int):List Int:=amts (l.filter fun x=>x.a==a)
def plainS (l:List Lin):List Lin×Int :=
 if l.any badP then([],1)else if(List.range 17).any (fun(a:Nat)=>decide (sumE (accA l (a:Int))≠0))then([],2)else
  (((List.range 17).map fun(a:Nat)=>(⟨(a:Int),sumV (accA l (a:Int))⟩:Lin)).filter (fun x=>!zeroN x),0)
def Strict (l:List Lin):Prop:=l.Pairwise fun x y=>x.a<y.a
structure Added (P out:List Lin):Prop where
 strict:Strict out
 acc:∀a,(∃y,y∈out∧y.a=a)↔∃x,x∈P∧x.a=a
 sum:∀y,y∈out→sumGo 0 (accA P y.a)=some y.n
 rise:Rises Lin.a P
theorem Added.nil:Added [] []:=⟨List.Pairwise.nil,by simp,by simp,Rises.nil⟩
theorem accA_snoc (P:List Lin) (x:Lin) (a:Int):accA (P++[x]) a=if x.a=a then accA P a++[x.n]else accA P a:=by
 unfold accA amts
 by_cases h:x.a=a
 ·simp[List.filter_append,h]
 ·simp[List.filter_append,h]
theorem sumGo_snoc' (l:List Int) (z n:Int) (h:sumGo 0 l=some n):sumGo 0 (l++[z])=if addOk n z then some (n+z)else none:=by
 rw[sumGo_snoc,h];rfl
theorem Added.more {P out:List Lin} {x:Lin} (h:Added P out) (hr:Rises Lin.a (P++[x])) (hx:inB x.n=true) (hne:∀A y,out=A++[y]→y.a≠x.a):Added (P++[x]) (out++[x]):=by
 have hle:∀y,y∈out→y.a<x.a:=by
  intro y hy
  have hle':∀y,y∈out→y.a≤x.a:=fun y hy=>by
   obtain⟨z,hz,e⟩:=(h.acc y.a).1 ⟨y,hy,rfl⟩
   have:=(Rises.app.1 hr).2.2 z hz x (by simp)
   omega
  rcases split_last out with rfl|⟨A,y',rfl⟩
  ·simp at hy
  ·have h1:=hne A y' rfl
   have h2:=hle' y' (by simp)
   rcases List.mem_append.1 hy with hy|hy
   ·have:=(List.pairwise_append.1 h.strict).2.2 y hy y' (by simp)
    omega
   ·simp at hy;subst hy;omega
 have hno:accA P x.a=[]:=by
  unfold accA amts
  rw[List.map_eq_nil_iff,List.filter_eq_nil_iff]
  intro z hz
  simp
  intro e
  obtain⟨y,hy,ey⟩:=(h.acc z.a).2 ⟨z,hz,rfl⟩
  have:=hle y hy
  omega
 refine⟨List.pairwise_append.2 ⟨h.strict,by simp,fun y hy z hz=>by simp at hz;subst hz;exact hle y hy⟩,fun a=>?_,fun y hy=>?_,hr⟩
 ·constructor
  ·rintro⟨y,hy,rfl⟩
   rcases List.mem_append.1 hy with hy|hy
   ·obtain⟨z,hz,e⟩:=(h.acc y.a).1 ⟨y,hy,rfl⟩
    exact⟨z,by simp[hz],e⟩
   ·exact⟨y,by simp at hy;simp[hy],rfl⟩
  ·rintro⟨z,hz,rfl⟩
   rcases List.mem_append.1 hz with hz|hz
   ·obtain⟨y,hy,e⟩:=(h.acc z.a).2 ⟨z,hz,rfl⟩
    exact⟨y,by simp[hy],e⟩
   ·exact⟨z,by simp at hz;simp[hz],rfl⟩
 ·rw[accA_snoc]
  rcases List.mem_append.1 hy with hy|hy
  ·have:=hle y hy
   rw[if_neg (by omega)]
   exact h.sum y hy
  ·simp at hy
   subst hy
   rw[if_pos rfl,hno]
   have:addOk 0 y.n=true:=addOk_iff.2 ⟨by decide +kernel,hx,by rw[Int.zero_add];exact hx⟩
   simp[sumGo,this]
theorem Added.same {P A:List Lin} {x y:Lin} (h:Added P (A++[y])) (hr:Rises Lin.a (P++[x])) (e:y.a=x.a) (ho:addOk y.n x.n=true):Added (P++[x]) (A++[⟨y.a,y.n+x.n⟩]):=by
 have hs:=List.pairwise_append.1 h.strict
 refine⟨List.pairwise_append.2 ⟨hs.1,by simp,fun z hz u hu=>by simp at hu;subst hu;exact hs.2.2 z hz y (by simp)⟩,fun a=>?_,fun z hz=>?_,hr⟩
 ·have:=h.acc a
  constructor
  ·rintro⟨z,hz,rfl⟩
   have:∃u,u∈P∧u.a=z.a:=this.1 (by
    rcases List.mem_append.1 hz with hz|hz
    ·exact⟨z,by simp[hz],rfl⟩
    ·simp at hz;exact⟨y,by simp,by rw[hz]⟩)
   obtain⟨u,hu,eu⟩:=this
   exact⟨u,by simp[hu],eu⟩
  ·rintro⟨z,hz,rfl⟩
   have h2:∃u,u∈A++[y]∧u.a=z.a:=by
    rcases List.mem_append.1 hz with hz|hz
    ·exact this.2 ⟨z,hz,rfl⟩
    ·simp at hz;exact⟨y,by simp,by rw[hz,e]⟩
   obtain⟨u,hu,eu⟩:=h2
   rcases List.mem_append.1 hu with hu|hu
   ·exact⟨u,by simp[hu],eu⟩
   ·simp at hu;subst hu;exact⟨⟨u.a,u.n+x.n⟩,by simp,eu⟩
 ·rw[accA_snoc]
  rcases List.mem_append.1 hz with hz|hz
  ·have:=hs.2.2 z hz y (by simp)
   rw[if_neg (by omega)]
   exact h.sum z (by simp[hz])
  ·simp at hz
   subst hz
   rw[if_pos e.symm]
   rw[sumGo_snoc' _ _ _ (h.sum y (by simp)),ho]
   rfl
theorem Added.stop {P A m:List Lin} {x y:Lin} {k:Nat} (h:Added P (A++[y])) (e:y.a=x.a) (ho:addOk y.n x.n=false) (hP:P=m.take k) (hx:m[k]?=some x):sumGo 0 (accA m y.a)=none:=by
 have h1:sumGo 0 (accA (P++[x]) y.a)=none:=by
  rw[accA_snoc,if_pos e.symm,sumGo_snoc' _ _ _ (h.sum y (by simp)),ho]
  rfl
 have h2:accA m y.a=accA (P++[x]) y.a++accA (m.drop (k+1)) y.a:=by
  have e2:m.take (k+1)=P++[x]:=by rw[List.take_add_one,hx,hP];rfl
  conv=>lhs;rw[←List.take_append_drop (k+1) m,e2]
  unfold accA amts
  rw[List.filter_append,List.map_append]
 rw[h2,sumGo_append,h1]
 rfl
theorem sumGo_in (l:List Int):∀n s:Int,inB n=true→sumGo n l=some s→inB s=true:=by
 induction l with
 |nil=>intro n s hn h;simp[sumGo]at h;subst h;exact hn
 |cons z l ih =>
  intro n s hn h
  simp only[sumGo]at h
  split at h
  ·rename_i k;exact ih _ _ (addOk_iff.1 k).2.2 h
  ·cases h
theorem accA_stab {l m:List Lin} (h:Stab Lin.a l m) (a:Int):accA m a=accA l a:=by
 unfold accA
 rw[h a]
theorem sumE_none {l:List Int} (h:sumGo 0 l=none):sumE l=2:=by simp[sumE,h]
theorem sumV_some {l:List Int} {n:Int} (h:sumGo 0 l=some n):sumV l=n∧sumE l=0:=by simp[sumV,sumE,h]
theorem strict_ext:∀(l m:List Lin),Strict l→Strict m→(∀x,x∈l↔x∈m)→l=m
 |[],[],_,_,_=>rfl
 |[],y::m,_,_,h=>absurd ((h y).2 (by simp)) (by simp)
 |x::l,[],_,_,h=>absurd ((h x).1 (by simp)) (by simp)
 |x::l,y::m,hl,hm,h=>by
  have hl':=List.pairwise_cons.1 hl
  have hm':=List.pairwise_cons.1 hm
  have e:x=y:=by
   rcases List.mem_cons.1 ((h x).1 (by simp))with e|hx
   ·exact e
   ·rcases List.mem_cons.1 ((h y).2 (by simp))with e|hy
    ·exact e.symm
    ·have a:=hm'.1 x hx
     have b:=hl'.1 y hy
     omega
  subst e
  congr 1
  refine strict_ext l m hl'.2 hm'.2 fun z=>?_
  constructor
  ·intro hz
   rcases List.mem_cons.1 ((h z).1 (by simp[hz]))with e|hz'
   ·subst e;have:=hl'.1 z hz;omega
   ·exact hz'
  ·intro hz
   rcases List.mem_cons.1 ((h z).2 (by simp[hz]))with e|hz'
   ·subst e;have:=hm'.1 z hz;omega
   ·exact hz'
theorem plain_bad {l:List Lin} (h:l.any badP=true):plainS l=([],1):=by simp[plainS,h]
theorem good_of {l:List Lin} (h:l.any badP=false) {x:Lin} (hx:x∈l):0≤x.a∧x.a<17∧inB x.n=true:=by
 have:=List.any_eq_false.1 h x hx
 simp[badP]at this
 exact⟨(isAcc_iff.1 this.1).1,(isAcc_iff.1 this.1).2,this.2⟩
theorem plain_big {l m:List Lin} {a:Int} (h:l.any badP=false) (hs:Stab Lin.a l m) (ha:0≤a∧a<17) (hn:sumGo 0 (accA m a)=none):plainS l=([],2):=by
 have:(List.range 17).any (fun(a:Nat)=>decide (sumE (accA l (a:Int))≠0))=true:=by
  refine List.any_eq_true.2 ⟨a.toNat,List.mem_range.2 (by omega),?_⟩
  rw[Int.toNat_of_nonneg ha.1,←accA_stab hs,sumE_none hn]
  decide
 simp only[plainS,h,this]
 simp
theorem plain_ok {l m out:List Lin} (h:l.any badP=false) (hs:Stab Lin.a l m) (hA:Added m out):plainS l=(out.filter (fun x=>!zeroN x),0):=by
 have hE:∀a:Nat,sumE (accA l a)=0∧((∃y,y∈out∧y.a=(a:Int)∧y.n=sumV (accA l a))∨((∀y,y∈out→y.a≠(a:Int))∧sumV (accA l a)=0)):=by
  intro a
  by_cases he:∃y,y∈out∧y.a=(a:Int)
  ·obtain⟨y,hy,e⟩:=he
   have:=sumV_some (hA.sum y hy)
   rw[e,accA_stab hs]at this
   exact⟨this.2,.inl ⟨y,hy,e,this.1.symm⟩⟩
  ·have hno:accA l a=[]:=by
    rw[←accA_stab hs]
    unfold accA amts
    rw[List.map_eq_nil_iff,List.filter_eq_nil_iff]
    intro z hz
    simp
    intro e
    exact he ((hA.acc a).2 ⟨z,hz,e⟩)
   rw[hno]
   exact⟨rfl,.inr ⟨fun y hy e=>he ⟨y,hy,e⟩,rfl⟩⟩
 have:(List.range 17).any (fun(a:Nat)=>decide (sumE (accA l (a:Int))≠0))=false:=by
  rw[List.any_eq_false]
  intro a _
  simp[(hE a).1]
 simp only[plainS,h,this]
 simp only[Bool.false_eq_true,if_false,Prod.mk.injEq,and_true]
 refine strict_ext _ _ ?_ (hA.strict.filter _) fun x=>?_
 ·refine List.Pairwise.filter _ ?_
  rw[List.pairwise_map]
  refine(List.pairwise_lt_range (n:=17)).imp fun{a b} hab=>?_
  simp only
  omega
 ·simp only[List.mem_filter,List.mem_map,List.mem_range]
  constructor
  ·rintro⟨⟨a,ha,rfl⟩,hz⟩
   rcases(hE a).2 with⟨y,hy,e1,e2⟩|⟨-,e2⟩
   ·refine⟨?_,hz⟩
    obtain⟨ya,yn⟩:=y
    simp only at e1 e2
    subst e1;subst e2
    exact hy
   ·simp[zeroN,e2]at hz
  ·rintro⟨hx,hz⟩
   refine⟨?_,hz⟩
   obtain⟨z,hz2,e⟩:=(hA.acc x.a).1 ⟨x,hx,rfl⟩
   have g:=good_of h ((Stab.mem hs).1 hz2)
   refine⟨x.a.toNat,by omega,?_⟩
   have en:(x.a.toNat:Int)=x.a:=Int.toNat_of_nonneg (by omega)
   rw[en]
   have:=sumV_some (hA.sum x hx)
   rw[accA_stab hs]at this
   rw[this.1]
end Go.Proofs.YtnalblnmplnhmaaGreat
set_option linter.unusedVariables false
set_option linter.unusedSimpArgs false
namespace Go.Proofs.YtnalblnmplnhmaaGreat
open Go.RowKit
def Hold2 (w:World) (base:Nat) (v:Value) (l:List Lin):Prop :=
 ∃a cap,v=.slice a l.length cap∧l.length≤cap∧cap≤maxLen∧(l.length=0∨∃b off,a=some ⟨b,off,none⟩∧base≤b∧b<w.heap.size∧CellsAt w b off (flat2 l)∧∀i,w.frozen? ⟨b,i,none⟩=false)
theorem Hold2.row {w:World} {base:Nat} {v:Value} {l:List Lin} (h:Hold2 w base v l) (ha:AllI (flat2 l)):∃a cap,v=.slice a l.length cap∧Row w 2 a l.length cap (flat2 l):=by
 obtain⟨a,cap,rfl,h1,h2,h3⟩:=h
 refine⟨a,cap,rfl,flat2_len l,h1,h2,ha,?_⟩
 rcases h3 with h3|⟨b,off,rfl,-,h4,h5,-⟩
 ·exact .inl h3
 ·exact .inr ⟨b,off,rfl,h4,h5⟩
theorem Hold2.below {w w':World} {base:Nat} {v:Value} {l:List Lin} (h:Hold2 w base v l) (g:Below w.heap.size w w'):Hold2 w' base v l:=by
 obtain⟨a,cap,rfl,h1,h2,h3⟩:=h
 refine⟨a,cap,rfl,h1,h2,?_⟩
 rcases h3 with h3|⟨b,off,rfl,hb,h4,h5,h6⟩
 ·exact .inl h3
 ·exact .inr ⟨b,off,rfl,hb,Nat.lt_of_lt_of_le h4 g.size,h5.below h4 g,fun i=>(g.frozen (p:=⟨b,i,none⟩) h4).trans (h6 i)⟩
theorem Hold2.mono {w:World} {base base':Nat} {v:Value} {l:List Lin} (h:Hold2 w base v l) (g:base'≤base):Hold2 w base' v l:=by
 obtain⟨a,cap,rfl,h1,h2,h3⟩:=h
 refine⟨a,cap,rfl,h1,h2,?_⟩
 rcases h3 with h3|⟨b,off,rfl,hb,h4⟩
 ·exact .inl h3
 ·exact .inr ⟨b,off,rfl,Nat.le_trans g hb,h4⟩
theorem Hold2.nil {w:World} {base:Nat} {a:Option Addr} {cap:Nat} (h:cap≤maxLen):Hold2 w base (.slice a 0 cap) []:=⟨a,cap,rfl,by simp,h,.inl rfl⟩
theorem OwnI.full {w:World} {base n:Nat} {e:TypeId} {v:Value} {l:List Lin} (h:OwnI w base e 2 v n (flat2 l)) (h0:0<n) :
  ∃g cap,v=.slice (some ⟨g,0,none⟩) n cap∧base≤g∧g<w.heap.size∧n≤cap∧cap≤maxLen∧CellsAt w g 0 (flat2 l)∧∀i,w.frozen? ⟨g,i,none⟩=false:=by
 have hl:=h.len
 obtain⟨h1,h2⟩:=id h
 rcases h2 with⟨rfl,hn⟩|⟨b,cap,cur,rfl,hb,hh,hn,hc,hs,ht⟩
 ·omega
 ·refine⟨b,cap,rfl,hb,(Array.getElem?_eq_some_iff.1 hh).1,hn,hc,?_,fun i=>World.ownsRow.frozenAt h i⟩
  intro i hi
  have c:=World.ownsRow.cellAt (w:=w) (base:=base) (e:=e) (size:=2) (g:=b) (n:=n) (cap:=cap) (xs:=ints (flat2 l)) h i (by omega)
  rw[Nat.zero_add,c,ints_get,List.getElem?_eq_getElem hi,List.getD_eq_getElem?_getD,List.getElem?_eq_getElem hi]
  rfl
theorem OwnI.stored {w:World} {base n g cap:Nat} {e:TypeId} {k:Nat} {zs:List Int} (h:OwnI w base e k (.slice (some ⟨g,0,none⟩) n cap) n zs) (j:Nat) (z:Int) :
  OwnI (w.setCell ⟨g,j,none⟩ (.int .i64 z)) base e k (.slice (some ⟨g,0,none⟩) n cap) n (zs.set j z):=by
 have:=(World.ownsRow.stored h j (.int .i64 z)).1
 unfold OwnI
 rw[show ints (zs.set j z)=(ints zs).set j (.int .i64 z)by simp[ints,List.map_set]]
 exact this
theorem flat2_snoc (l:List Lin) (x:Lin):flat2 (l++[x])=flat2 l++[x.a,x.n]:=by simp[flat2]
theorem flat2_last (A:List Lin) (y:Lin) (z:Int):(flat2 (A++[y])).set (A.length*2+1) z=flat2 (A++[⟨y.a,z⟩]):=by
 rw[flat2_snoc,flat2_snoc,List.set_append]
 have:=flat2_len A
 rw[if_neg (by omega),this]
 simp
section
variable (a:Option Addr) (cap:Nat) (w:World)
theorem ins_zero (hm:cap≤maxLen) (F:Value):Calls Tryz.prog 219 #[.slice a 0 cap,.int .i64 0,.int .i64 0,F] w fun r w'=>r=.returned (.tuple #[])∧w=w':=by
 go_enter Tryz.func219,Tryz.ntmps219
 go_wp2_with fail
 refine wp_loop_rounds 1 ?_
 rw[rounds_succ]
 go_wp2_with fail
 exact bodyPost_end (v:=.tuple #[]) (by simp[results,Tryz.results219,go_sem]) rfl ⟨rfl,rfl⟩
theorem stable_zero (hm:cap≤maxLen) (F:Value):Calls Tryz.prog 209 #[.slice a 0 cap,.int .i64 0,F] w fun r w'=>r=.returned (.tuple #[])∧w=w':=by
 go_enter Tryz.func209,Tryz.ntmps209
 go_wp2_with fail
 refine wp_loop_rounds 1 ?_
 rw[rounds_succ]
 go_wp2_with fail
 refine(ins_zero a cap _ hm F).mono ?_
 rintro r w1 ⟨rfl,rfl⟩
 go_wp2_with fail
 refine wp_loop_rounds 1 ?_
 rw[rounds_succ]
 go_wp2_with fail
 exact bodyPost_end (v:=.tuple #[]) (by simp[results,Tryz.results209,go_sem]) rfl ⟨rfl,rfl⟩
theorem func_zero (hm:cap≤maxLen) (F:Value):Calls Tryz.prog 188 #[.slice a 0 cap,F] w fun r w'=>r=.returned (.tuple #[])∧w=w':=by
 go_enter Tryz.func188,Tryz.ntmps188
 go_wp2_with fail
 refine(stable_zero a cap _ hm F).mono ?_
 rintro r w1 ⟨rfl,rfl⟩
 go_wp2_with fail
 exact bodyPost_end (v:=.tuple #[]) (by simp[results,Tryz.results188,go_sem]) rfl ⟨rfl,rfl⟩
theorem by_zero (hm:cap≤maxLen):Calls Tryz.prog 146 #[.slice a 0 cap,.func (.func 147) #[] #[]] w fun r w'=>r=.returned (.tuple #[])∧Below w.heap.size w w':=by
 go_enter Tryz.func146,Tryz.ntmps146
 go_wp2_with fail
 refine(func_zero a cap _ hm _).mono ?_
 rintro r w1 ⟨rfl,rfl⟩
 go_wp2_with fail
 exact bodyPost_end (v:=.tuple #[]) (by simp[results,Tryz.results146,go_sem]) rfl ⟨rfl,(Below.refl _ _).alloc (Nat.le_refl _) _⟩
end
theorem delete_nil {F:FuncId} {p:Lin→Bool} (hF:Pred F p) (w:World) :
  Calls Tryz.prog 148 #[.slice none 0 0,.func (.func F) #[] #[]] w fun e w'=>e=.returned (.slice none 0 0)∧Below w.heap.size w w':=by
 have hidx:=idx_func hF none 0 []
 go_enter Tryz.func148,Tryz.ntmps148
 clear hF
 go_wp2_with fail
 refine(hidx w (Row.nil _ _)).mono ?_
 rw[show idxP p []=-1 from rfl]
 rintro e w1 ⟨rfl,hw1⟩
 go_wp2_with fail
 go_ret
 exact⟨rfl,hw1⟩
section
variable {P:Program} {f:FuncId} {args:Array Value} {w:World} {v:Value}
theorem quiet_add_left {a n:Nat} (h:Calls P f args (w.drewN (a+n)) fun e w'=>e=.returned v∧w.drewN (a+n)=w') :
  Calls P f args (w.drewN (a+n)) fun e w''=>e=.returned v∧∃m,w''=w.drewN (a+m):=h.mono fun _ _ ⟨he,hm⟩=>⟨he,n,hm.symm⟩
end
theorem add_ok {x y:Int} (h:addOk x y=true) (w:World):Calls Tryz.prog 95 #[.int .i64 x,.int .i64 y] w fun e w'=>e=.returned (.tuple #[.int .i64 (x+y),.int .i64 0])∧w=w':=by
 have:=money_Add x y w
 rw[(addV_of h).1,(addV_of h).2]at this
 exact this
theorem add_no {x y:Int} (h:addOk x y=false) (w:World):Calls Tryz.prog 95 #[.int .i64 x,.int .i64 y] w fun e w'=>e=.returned (.tuple #[.int .i64 0,.int .i64 2])∧w=w':=by
 have:=money_Add x y w
 rw[(addV_of_not h).1,(addV_of_not h).2]at this
 exact this
def HoldP (w:World) (r:List Lin×Int) (e:Ending) (w':World):Prop:=∃v,e=.returned (.tuple #[v,.int .i64 r.2])∧Hold2 w' w.heap.size v r.1∧Below w.heap.size w w'
set_option maxRecDepth 20000 in
set_option maxHeartbeats 4000000 in
theorem vou_Plain (a:Option Addr) (cap:Nat) (l:List Lin) (w:World) (h:Row w 2 a l.length cap (flat2 l)) (h20:l.length≤20) :
  Calls Tryz.prog 104 #[.slice a l.length cap] w (HoldP w (plainS l)):=by
 have hall:=h.all
 generalize hr:plainS l=r
 have hrh:=Lib.hid hr
 clear hr
 go_enter Tryz.func104,Tryz.ntmps104
 go_wp2_with fail
 refine(contains_func pred_P1 a cap l _ h).mono ?_
 rintro e w1 ⟨rfl,hw1⟩
 have h1:=h.below hw1
 cases hbad:l.any badP
 ·clear h
  go_wp2_with fail
  refine(Clone_Line a l.length cap (flat2 l) _ h1 (by omega)).mono ?_
  rintro e w2 ⟨⟨v2,rfl,O2⟩,hw2⟩
  have hbel2:Below w.heap.size w w2:=by(repeat (first|assumption|exact Below.refl _ _|refine ballc ?_ _|refine bdrew ?_|refine bdrewN ?_ _|refine bset ?_ _ _|refine bsetN ?_ (by omega) _ _|refine bthen ?_ (by assumption)))
  by_cases h0:l=[]
  ·subst h0
   have hr:r=([],0):=by rw[←hrh.out];rfl
   subst hr
   obtain⟨a2,c2,rfl,R2⟩:=O2.row (by intro z hz;simp[flat2]at hz)
   clear hrh h1 hw1 hw2 O2 hall
   go_wp2_with fail
   refine(by_zero a2 c2 w2 R2.max).mono ?_
   rintro e w3 ⟨rfl,hw3⟩
   go_wp2_with fail
   refine wp_loop_rounds 1 ?_
   rw[rounds_succ]
   go_wp2_with fail
   refine(delete_nil pred_P3 w3).mono ?_
   rintro e w4 ⟨rfl,hw4⟩
   go_wp2_with fail
   go_ret2
   exact⟨_,rfl,Hold2.nil (by unfold maxLen;omega),by(repeat (first|assumption|exact Below.refl _ _|refine ballc ?_ _|refine bdrew ?_|refine bdrewN ?_ _|refine bset ?_ _ _|refine bsetN ?_ (by omega) _ _|refine bthen ?_ (by assumption)))⟩
  ·have hpos:0<l.length:=List.length_pos_iff.2 h0
   obtain⟨b,c2,rfl,hbB,hb,hnc,hcm,hcs,hfz⟩:=O2.full hpos
   clear O2 h1
   go_wp2_with fail
   refine(by_calls b 0 c2 l w2 hcs hfz hb hnc hcm h20).mono ?_
   rintro e w3 ⟨rfl,m,hml,hmr,hms,hmc,hK⟩
   have hgood:∀x,x∈m→0≤x.a∧x.a<17∧inB x.n=true:=fun x hx=>good_of hbad ((Stab.mem hms).1 hx)
   have hbel3:Below w.heap.size w w3:=hbel2.trans (hK.below hbel2.size (Nat.le_trans hw1.size hbB))
   have hb3:b<w3.heap.size:=Nat.lt_of_lt_of_le hb hK.size
   have hall2:=Lib.hid hgood
   have hsz3:=hbel3.size
   have hmlh:=Lib.hid hml
   have hmrh:=Lib.hid hmr
   obtain⟨n,hN⟩:∃n,l.length=n:=⟨_,rfl⟩
   rw[hN]at hnc hpos h20 ⊢
   have hNh:=Lib.hid hN
   clear hgood hw1 hw2 hcs hfz hK hml hmr hN h0
   go_wp2_with fail
   go_loopw [5,19] (fun o i wr=>∃(j:Nat) (out:List Lin),j≤n∧i=.int .i64 j∧OwnI wr w3.heap.size 131 2 o out.length (flat2 out)∧Hid (Added (m.take j) out)∧out.length≤j∧Below w3.heap.size w3 wr) (fun _ i _=>n-(intOf i).toNat)
   case atStart=>exact⟨0,[],by omega,rfl,OwnI.nil _ _ _ _,Added.nil,by simp,Below.refl _ _⟩
   case round =>
    obtain⟨j,out,hj,rfl,O,hAd,hol,hbel⟩:=hrel
    have hszr:=hbel.size
    by_cases hlt:j<n
    ·have hltI:(j:Int)<(n:Int):=by omega
     obtain⟨x,hx⟩:∃x,m[j]?=some x:=⟨m[j]'(by rw[hmlh.out,hNh.out];omega),by simp[hmlh.out,hNh.out,hlt]⟩
     obtain⟨c0,c1⟩:=(hmc.below hb3 hbel).line hx
     rw[Nat.zero_add]at c0 c1
     have htk:m.take (j+1)=m.take j++[x]:=by rw[List.take_add_one,hx];rfl
     have hrise:Rises Lin.a (m.take j++[x]):=by rw[←htk];exact List.Pairwise.take hmrh.out
     have hxg:=hall2.out x (List.mem_of_getElem? hx)
     have hxh:=Lib.hid hx
     have htkh:=Lib.hid htk
     have hriseh:=Lib.hid hrise
     have hxgh:=Lib.hid hxg
     clear hx htk hrise hxg
     rcases split_last out with rfl|⟨A,y,rfl⟩
     ·obtain⟨a5,c5,rfl,R5⟩:=O.row (by intro z hz;simp[flat2]at hz)
      clear R5
      go_wp2_with fail
      go_quiet (fail)
      go_wp2_with (at_builtin;refine wpList_push _ rfl _ _ 132 rfl w3.heap.size 131 2 elem_Line _ 0 (flat2 []) rfl (O.below (by(repeat (first|assumption|exact Below.refl _ _|refine ballc ?_ _|refine bdrew ?_|refine bdrewN ?_ _|refine bset ?_ _ _|refine bsetN ?_ (by omega) _ _|refine bthen ?_ (by assumption))))) (wr.heap.size+1) 0 1 [x.a,x.n] rfl rfl (lit2 (x:=x) (by simp)) ?c1 ?c2 ?_)
      case c1=>omega
      case c2=>simp;omega
      ·intro v' w4 hown' hb1
       have hA2:Added (m.take (j+1)) ([]++[x]):=by rw[htkh.out];exact hAd.out.more hriseh.out hxgh.out.2.2 (by simp)
       have hA2h:=Lib.hid hA2
       have hs1:Below w3.heap.size w3 w4:=Below.trans (by(repeat (first|assumption|exact Below.refl _ _|refine ballc ?_ _|refine bdrew ?_|refine bdrewN ?_ _|refine bset ?_ _ _|refine bsetN ?_ (by omega) _ _|refine bthen ?_ (by assumption)))) hb1
       clear O hb1 hA2
       go_wp2
       go_roundw
       case rel=>exact⟨j+1,[]++[x],by omega,by go_num,by rw[flat2_snoc];exact hown',hA2h.out,by simp,hs1⟩
       case measure=>simp[intOf];omega
     ·obtain⟨g,c5,rfl,hgB,hgl,hnc5,hcm5,hgc,hgf⟩:=O.full (by simp)
      have hgy:=hgc.line (j:=A.length) (x:=y) (by simp)
      rw[Nat.zero_add]at hgy
      obtain⟨q,hq⟩:∃q,A.length=q:=⟨_,rfl⟩
      have hlen:(A++[y]).length=q+1:=by simp;omega
      rw[hq]at hgy
      obtain⟨y0,y1⟩:=hgy
      have hgf1:=hgf (q*2+1)
      have hq1:(0:Int)≤(q:Int):=by omega
      have hq2:IntKind.i64.wrap ((q:Int)+1-1)=(q:Int):=(IntWalk.i64_in _ (by omega)).trans (by omega)
      have hq3:IntKind.i64.wrap (q:Int)=(q:Int):=IntWalk.i64_in _ (by omega)
      have hq4:(q:Int)<(q:Int)+1:=by omega
      have hq5:decide ((0:Int)≤(q:Int))=true:=decide_eq_true hq1
      have hgl1:g<wr.heap.size+1:=by omega
      have hlenh:=Lib.hid hlen
      have hqh:=Lib.hid hq
      have hq6:(q:Int)≤20:=by omega
      rw[hlen]at O ⊢
      clear hlen hq hgc hgf
      by_cases hya:y.a=x.a
      ·have hb1:(y.a==x.a)=true:=by simpa using hya
       have hb2:decide (y.a=x.a)=true:=by simpa using hya
       have hyah:=Lib.hid hya
       clear hya
       cases hok:addOk y.n x.n
       ·have hr:r=([],2):=by
         rw[←hrh.out]
         have g:=hxgh.out
         have e:=hyah.out
         exact plain_big (a:=y.a) hbad hms (by omega) (hAd.out.stop e hok rfl hxh.out)
        subst hr
        clear hrh
        go_wp2_with fail
        go_quiet (fail)
        go_wp2_with fail
        go_quiet ((go_at_call 95;first|exact quiet_add_left (add_no hok _)|exact quiet_left (add_no hok _)))
        go_wp2_with fail
        go_ret2
        exact⟨_,rfl,Hold2.nil (by unfold maxLen;omega),Below.trans hbel3 (Below.mono (by(repeat (first|assumption|exact Below.refl _ _|refine ballc ?_ _|refine bdrew ?_|refine bdrewN ?_ _|refine bset ?_ _ _|refine bsetN ?_ (by omega) _ _|refine bthen ?_ (by assumption)))) hsz3)⟩
       ·have hbd:=addOk_bd hok
        go_wp2_with fail
        go_quiet (fail)
        go_wp2_with fail
        go_quiet ((go_at_call 95;first|exact quiet_add_left (add_ok hok _)|exact quiet_left (add_ok hok _)))
        go_wp2_with fail
        case' roundEnd =>
         have hA2:Hid (Added (m.take (j+1)) (A++[⟨y.a,y.n+x.n⟩])):=by rw[Hid];rw[htkh.out];exact hAd.out.same hriseh.out hyah.out hok
         have O2:∀K,OwnI _ _ _ _ _ _ _:=fun K=>(O.below (w':=(wr.alloc (.cells #[.int .i64 x.a,.int .i64 x.n] 131)).drewN K) (by(repeat (first|assumption|exact Below.refl _ _|refine ballc ?_ _|refine bdrew ?_|refine bdrewN ?_ _|refine bset ?_ _ _|refine bsetN ?_ (by omega) _ _|refine bthen ?_ (by assumption))))).stored (q*2+1) (y.n+x.n)
         have hfl:(flat2 (A++[y])).set (q*2+1) (y.n+x.n)=flat2 (A++[⟨y.a,y.n+x.n⟩]):=by rw[←hqh.out];exact flat2_last A y _
         rw[hfl]at O2
         have hs1:∀K,Below w3.heap.size w3 (((wr.alloc (.cells #[.int .i64 x.a,.int .i64 x.n] 131)).drewN K).setCell ⟨g,q*2+1,none⟩ (.int .i64 (y.n+x.n))):=fun K=>Below.setCell (by(repeat (first|assumption|exact Below.refl _ _|refine ballc ?_ _|refine bdrew ?_|refine bdrewN ?_ _|refine bset ?_ _ _|refine bsetN ?_ (by omega) _ _|refine bthen ?_ (by assumption)))) (p:=⟨g,q*2+1,none⟩) hgB _
         refine⟨⟨j+1,A++[⟨y.a,y.n+x.n⟩],by omega,by go_num,?_,hA2,by simp;have:=hqh.out;have:=hlenh.out;simp at hol;omega,hs1 _⟩,?_⟩
         ·have hl2:(A++[(⟨y.a,y.n+x.n⟩:Lin)]).length=q+1:=by simp;exact hqh.out
          rw[hl2]
          exact O2 _
         ·simp[intOf];omega
      ·have hb1:(y.a==x.a)=false:=by simpa using hya
       have hb2:decide (y.a=x.a)=false:=by simpa using hya
       have hA2:Added (m.take (j+1)) ((A++[y])++[x]):=by
        rw[htkh.out]
        refine hAd.out.more hriseh.out hxgh.out.2.2 fun A' y' e=>?_
        have:=List.append_inj' e rfl
        simp at this
        rw[←this.2]
        exact hya
       have hA2h:=Lib.hid hA2
       clear hA2
       go_wp2_with fail
       go_quiet (fail)
       go_wp2_with (at_builtin;refine wpList_push _ rfl _ _ 132 rfl w3.heap.size 131 2 elem_Line _ (q+1) (flat2 (A++[y])) rfl (O.below (by(repeat (first|assumption|exact Below.refl _ _|refine ballc ?_ _|refine bdrew ?_|refine bdrewN ?_ _|refine bset ?_ _ _|refine bsetN ?_ (by omega) _ _|refine bthen ?_ (by assumption))))) (wr.heap.size+1) 0 1 [x.a,x.n] rfl rfl (lit2 (x:=x) (by simp)) ?c1 ?c2 ?_)
       case c1=>omega
       case c2=>simp;omega
       ·intro v' w4 hown' hb1
        have hs1:Below w3.heap.size w3 w4:=Below.trans (by(repeat (first|assumption|exact Below.refl _ _|refine ballc ?_ _|refine bdrew ?_|refine bdrewN ?_ _|refine bset ?_ _ _|refine bsetN ?_ (by omega) _ _|refine bthen ?_ (by assumption)))) hb1
        have hl2:((A++[y])++[x]).length=q+1+1:=by simp;have:=hqh.out;omega
        have hl2h:=Lib.hid hl2
        clear O hb1 hl2
        go_wp2
        go_roundw
        case rel=>exact⟨j+1,(A++[y])++[x],by omega,by go_num,by rw[hl2h.out,flat2_snoc];exact hown',hA2h.out,by rw[hl2h.out];have:=hlenh.out;omega,hs1⟩
        case measure=>simp[intOf];omega
    ·have ej:j=n:=by omega
     subst ej
     have hge:¬ (j:Int)<(j:Int):=by omega
     have hAm:Added m out:=by have:=hAd.out;rwa[List.take_of_length_le (by rw[hmlh.out,hNh.out];omega)]at this
     have hout:out≠[]:=by
      intro e
      obtain⟨x,hx⟩:∃x,x∈m:=⟨m[0]'(by rw[hmlh.out,hNh.out];omega),List.getElem_mem _⟩
      obtain⟨y,hy,-⟩:=(hAm.acc x.a).2 ⟨x,hx,rfl⟩
      rw[e]at hy
      simp at hy
     obtain⟨g,c5,rfl,hgB,hgl,hnc5,hcm5,hgc,hgf⟩:=O.full (List.length_pos_iff.2 hout)
     have hr:r=(out.filter (fun x=>!zeroN x),0):=by rw[←hrh.out];exact plain_ok hbad hms hAm
     have hAo:AllI (flat2 out):=flat2_of fun y hy=>by
      obtain⟨x,hx,e⟩:=(hAm.acc y.a).1 ⟨y,hy,rfl⟩
      have g:=hall2.out x hx
      have s:=sumGo_in _ 0 y.n (by decide +kernel) (hAm.sum y hy)
      have s:=inB_iff.1 s
      exact⟨⟨by omega,by omega⟩,⟨by omega,by omega⟩⟩
     subst hr
     have hd:=delete_func pred_P3 g 0 c5 out wr hgc hgf hgl hnc5 hcm5 hAo
     clear hrh hAm O hgc hAd
     go_wp2_with fail
     refine hd.mono ?_
     rintro e w5 ⟨rfl,hC5,hK5⟩
     go_wp2_with fail
     go_ret2
     refine⟨_,rfl,⟨_,c5,rfl,Nat.le_trans (List.length_filter_le _ _) hnc5,hcm5,.inr ⟨g,0,rfl,Nat.le_trans hsz3 hgB,Nat.lt_of_lt_of_le hgl hK5.size,hC5,fun i=>(hK5.froz i).trans (hgf i)⟩⟩,?_⟩
     exact hbel3.trans ((hbel.trans (hK5.below hszr hgB)).mono hsz3)
 ·have hr:r=([],1):=by rw[←hrh.out];exact plain_bad hbad
  subst hr
  clear hrh
  go_wp2_with fail
  go_ret2
  exact⟨_,rfl,Hold2.nil (by unfold maxLen;omega),hw1⟩
end Go.Proofs.YtnalblnmplnhmaaGreat
set_option linter.unusedVariables false
set_option linter.unusedSimpArgs false
namespace Go.Proofs.YtnalblnmplnhmaaGreat
open Go.RowKit
def checkL (l:List Lin):Bool:=decide (1≤l.length)&&decide (l.length≤12)&&!(l.any badC)&&decide (sumV (amts l)=0)&&decide (sumE (amts l)=0)
set_option maxHeartbeats 1000000 in
theorem vou_Check (a:Option Addr) (cap:Nat) (l:List Lin) (w:World) (h:Row w 2 a l.length cap (flat2 l)) :
  Calls Tryz.prog 152 #[.slice a l.length cap] w fun e w'=>e=.returned (.bool (checkL l))∧Below w.heap.size w w':=by
 generalize hr:checkL l=r
 have hrh:=Lib.hid hr
 clear hr
 go_enter Tryz.func152,Tryz.ntmps152
 by_cases h0:l.length<1∨12<l.length
 ·have hr:r=false:=by rw[←hrh.out];rcases h0 with h0|h0<;>simp[checkL]<;>omega
  subst hr
  clear hrh
  rcases h0 with h0|h0
  ·have h0':(l.length:Int)<1:=by omega
   go_wp2_with fail
   go_ret
   exact⟨rfl,Below.refl _ _⟩
  ·have h0':(12:Int)<(l.length:Int):=by omega
   have h1':¬ (l.length:Int)<1:=by omega
   go_wp2_with fail
   go_ret
   exact⟨rfl,Below.refl _ _⟩
 have h1:¬ (l.length:Int)<1:=by omega
 have h2:¬ (12:Int)<(l.length:Int):=by omega
 have h3:l.length≤12:=by omega
 have h4:1≤l.length:=by omega
 have hc:r=(!(l.any badC)&&decide (sumV (amts l)=0)&&decide (sumE (amts l)=0)):=by rw[←hrh.out];simp[checkL,h3,h4]
 have hch:=Lib.hid hc
 clear hrh hc h0 h4
 go_wp2_with fail
 refine(vou_sum a cap l _ h (by omega)).mono ?_
 rintro e w1 ⟨rfl,hw1⟩
 go_wp2_with fail
 refine(contains_func pred_C1 a cap l _ (h.below hw1)).mono ?_
 rintro e w2 ⟨rfl,hw2⟩
 have hb:Below w.heap.size w w2:=by(repeat (first|assumption|exact Below.refl _ _|refine ballc ?_ _|refine bdrew ?_|refine bdrewN ?_ _|refine bset ?_ _ _|refine bsetN ?_ (by omega) _ _|refine bthen ?_ (by assumption)))
 cases hbad:l.any badC
 all_goals
  by_cases hv:sumV (amts l)=0
  all_goals
   by_cases he:sumE (amts l)=0
   all_goals
    have hr:r=(!(l.any badC)&&decide (sumV (amts l)=0)&&decide (sumE (amts l)=0)):=hch.out
    simp only[hbad,hv,he]at hr
    simp at hr
    subst hr
    clear hch
    go_wp2_with fail
    go_ret
    first|exact⟨rfl,hb⟩|exact⟨ret_bool (by simp[he]),hb⟩|exact⟨ret_bool (by simp[hv]),hb⟩
end Go.Proofs.YtnalblnmplnhmaaGreat
set_option linter.unusedVariables false
set_option linter.unusedSimpArgs false
namespace Go.Proofs.YtnalblnmplnhmaaGreat
open Go.RowKit
theorem sumV_in (l:List Int):-288230376151711744≤sumV l∧sumV l≤288230376151711744:=by
 unfold sumV
 cases h:sumGo 0 l with
 |none=>exact⟨by simp,by simp⟩
 |some s=>exact inB_iff.1 (sumGo_in l 0 s (by decide +kernel) h)
theorem plain_all (l:List Lin):∀x,x∈(plainS l).1→0≤x.a∧x.a<17∧-288230376151711744≤x.n∧x.n≤288230376151711744:=by
 intro x hx
 unfold plainS at hx
 split at hx
 ·simp at hx
 ·split at hx
  ·simp at hx
  ·obtain⟨hx,-⟩:=List.mem_filter.1 hx
   obtain⟨a,ha,rfl⟩:=List.mem_map.1 hx
   have:=sumV_in (accA l (a:Int))
   have:=List.mem_range.1 ha
   exact⟨by simp only;omega,by simp only;omega,by simp only;omega,by simp only;omega⟩
theorem plain_I (l:List Lin):AllI (flat2 (plainS l).1):=flat2_of fun x hx=>by
 have:=plain_all l x hx
 exact⟨⟨by omega,by omega⟩,⟨by omega,by omega⟩⟩
theorem Row.cut {w:World} {a:Option Addr} {n cap k:Nat} {l:List Lin} (h:Row w 2 a n cap (flat2 l)) (hn:l.length=n) (hk:k≤n):Row w 2 a k cap (flat2 (l.take k)):=by
 refine⟨by rw[flat2_len,List.length_take];omega,by have:=h.le;omega,h.max,flat2_of fun x hx=>flat2_all h.all (List.mem_of_mem_take hx),?_⟩
 by_cases h0:k=0
 ·exact .inl h0
 ·rcases h.at_ with h1|⟨b,off,e,hb,hc⟩
  ·omega
  ·refine .inr ⟨b,off,e,hb,CellsAt.of_lines fun j x hx=>hc.line ?_⟩
   have hj:j<k:=by
    rcases Nat.lt_or_ge j k with h|h
    ·exact h
    ·rw[List.getElem?_eq_none (by rw[List.length_take];omega)]at hx;cases hx
   rwa[List.getElem?_take_of_lt hj]at hx
end Go.Proofs.YtnalblnmplnhmaaGreat
set_option linter.unusedVariables false
set_option linter.unusedSimpArgs false
namespace Go.Proofs.YtnalblnmplnhmaaGreat
open Go.RowKit
theorem CellsAt.put {w:World} {b off:Nat} {zs:List Int} (h:CellsAt w b off zs) {j:Nat} (hj:j<zs.length) (z:Int):CellsAt (w.setCell ⟨b,off+j,none⟩ (.int .i64 z)) b off (zs.set j z):=by
 intro i hi
 rw[List.length_set]at hi
 have k:=h i hi
 by_cases e:i=j
 ·subst e
  rw[World.cell?_setCell_same _ _ _ k,List.getD_eq_getElem?_getD,List.getElem?_set_self hi]
  rfl
 ·rw[World.cell?_setCell_other _ _ _ _ (by intro e2;injection e2;omega),k,List.getD_eq_getElem?_getD,List.getD_eq_getElem?_getD,List.getElem?_set_ne (fun e2=>e e2.symm)]
theorem OwnI.lit (w:World) (zs:List Int) (n k:Nat) (e:TypeId) (hl:zs.length=n*k) (hm:n≤4611686018427387904):OwnI (w.alloc (.cells (zs.map (Value.int .i64)).toArray e)) w.heap.size e k (.slice (some ⟨w.heap.size,0,none⟩) n n) n zs:=by
 have:=World.ownsRow_lit (base:=w.heap.size) (e:=e) (size:=k) w (zs.map (Value.int .i64)).toArray n (Nat.le_refl _) (by unfold maxLen;omega) (by simpa using hl)
 exact this
end Go.Proofs.YtnalblnmplnhmaaGreat