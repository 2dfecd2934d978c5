/-
 A machine of plain data beside the model: clear. No program in sight.
 A machine of plain data beside the model: iterators over texts, maps with whole numbers as keys. No program in sight.
 A machine of plain data beside the model: it runs. One operation. No program in sight.
 A machine of plain data beside the model: an operation hangs on what it looks at alone. No program in sight.
-/
import Derived.Test.YtjccjmmbebiegaaM9
import Derived.MapKept
set_option linter.unusedVariables false
set_option linter.unusedSimpArgs false
namespace Go.Proofs.Ytjccjmmbebiegaa.Mc
open Go.RowKit
section
variable {P:Program} {o:Oper} {f:List AV} {h:AH}
theorem rows_ok [Bk] [Ev] {m:Nat→St} {A:Nat→Prop} {w:World} (H:HRel m A h w) {T sz id i b:Nat} {els ys:List (List AV)} {us:List Value} {cs:Array Value} (hh:h id=.cells T sz els) (hm:m id=.at b) (g2:w.heap[b]?=some (.cells cs T (0,0))) (g3:els.length*sz≤cs.size) (g4:∀e∈els,e.length=sz)
  (g5:∀(i j:Nat) (x:AV),at2 els i j=some x→x.one=true∧Rd m A w x (cs.getD (i*sz+j) Go.undef)) (hy:∀e∈ys,e.length=sz) (hl:us.length=ys.length*sz)
  (hx:∀(i j:Nat) (x:AV),at2 ys i j=some x→x.one=true∧Rd m A w x (us.getD (i*sz+j) Go.undef)) (h1:∀v∈us,v.oneCell'=true) (hfit0:i+ys.length≤els.length) :
  ∃w',(storeCells ⟨b,i*sz,none⟩ us).run P w=.ok () w'∧HRel m A (bset h id (.cells T sz (splice els i ys))) w'∧Ext m w m w':=by
 have hmul:(i+ys.length)*sz≤els.length*sz:=Nat.mul_le_mul_right _ hfit0
 rw[Nat.add_mul]at hmul
 have hfit:i*sz+0+us.length≤cs.size:=by rw[hl];omega
 have hst:=run_storeCells_at P b (i*sz) T us 0 cs w g2 hfit h1
 refine⟨_,hst,?_⟩
 have hsz:(cs.toList.take (i*sz+0)++us++cs.toList.drop (i*sz+0+us.length)).toArray.size=cs.size:=by simp only[List.size_toArray,List.length_append,List.length_take,List.length_drop,Array.length_toList];omega
 have hget:∀k,(cs.toList.take (i*sz+0)++us++cs.toList.drop (i*sz+0+us.length)).toArray.getD k Go.undef=if i*sz≤k∧k<i*sz+us.length then us.getD (k-i*sz) Go.undef else cs.getD k Go.undef:=by
  intro k
  have:=splice_get (cs:=cs.toList) (off:=i*sz) (xs:=us) (by simpa using hfit) k
  unfold splice at this
  have e1:∀(l:List Value),l.toArray.getD k Go.undef=(l[k]?).getD Go.undef:=by intro l;simp
  rw[e1,Nat.add_zero,this]
  split
  ·simp[List.getD]
  ·simp
 refine H.write (els':=splice els i ys) hh hm (setRow_heap w b cs _ T _ g2) g2 hsz (fun k hk=>setRow_other w b k _ hk) rfl rfl rfl (by simp) ?_ ?_ ?_
 ·rw[hsz,splice_len hfit0];exact g3
 ·intro e' he'
  unfold splice at he'
  simp only[List.mem_append]at he'
  rcases he' with(h|h)|h
  ·exact g4 _ (List.mem_of_mem_take h)
  ·exact hy _ h
  ·exact g4 _ (List.mem_of_mem_drop h)
 ·intro i' j x hx'
  unfold at2 at hx'
  rw[splice_get hfit0]at hx'
  rw[hget]
  split at hx'
  ·rename_i hk
   have ha:at2 ys (i'-i) j=some x:=hx'
   have hb:=at2_len ha hy
   have e:i'*sz=i*sz+(i'-i)*sz:=by rw[←Nat.add_mul];congr 1;omega
   rw[if_pos (by omega)]
   have:=hx _ _ _ ha
   refine⟨this.1,?_⟩
   rw[show i'*sz+j-i*sz=(i'-i)*sz+j by omega]
   exact this.2
  ·rename_i hk
   have ha:at2 els i' j=some x:=hx'
   have hb:=at2_len ha g4
   rw[if_neg]
   ·exact g5 i' j x ha
   ·rintro⟨k1,k2⟩
    rcases Nat.lt_or_ge i' i with hlt|hge
    ·have:(i'+1)*sz≤i*sz:=Nat.mul_le_mul_right _ hlt
     rw[Nat.succ_mul]at this
     omega
    ·have:(i+ys.length)*sz≤i'*sz:=Nat.mul_le_mul_right _ (by omega)
     rw[Nat.add_mul]at this
     omega
theorem op_clear [Bk] [Ev] {t:TypeId} {x:Operand} {e:TypeId} {T sz id i n:Nat} {els:List (List AV)} {zc:List AV} {ti:TypeInfo} {z:Value} (ho:o.op=.call { callee:=.builtin .clear,args:=#[x],argTypes:=#[t] }) (hu:P.underlying t=some (.slice e)) (hi:P.info? e=some ti) (hz:ti.zero=some z)
  (hc:cellsA (ofC z)=some zc) (hs:zc.length=sz) (hx:aev f x=.own T sz id i n) (hh:h id=.cells T sz els) (hn:0<n) (hfit:i+n≤els.length):OpOk P o f h ⟨.tup [],[(id,.cells T sz (splice els i (List.replicate n zc)))],[id]⟩:=by
 intro m A w a H F
 have hel:∃el,els[i]?=some el:=⟨els[i],List.getElem?_eq_getElem (by omega)⟩
 obtain⟨el,he⟩:=hel
 obtain⟨b,cs,g1,g2,g3,g4,g5⟩:=H.block hh he
 have h1:=F.eval x
 rw[hx]at h1
 obtain⟨cap,hv,-⟩:=h1.at_own g1
 have hcr:CR (Rd m A w) zc z.cells:=CR_cells (.pure _ _ (RdL_ofC _ w z)) hc
 have hzs:z.cells.size=sz:=hcr.1.trans hs
 have hul:(Builtin.zeroCells z.cells n).toList.length=n*sz:=by simp[Builtin.zeroCells,hzs]
 have hux:∀k,k<n*sz→(Builtin.zeroCells z.cells n).toList.getD k Go.undef=z.cells.getD (k%sz) Go.undef:=by
  intro k hk
  have hk2:k%sz<sz:=Nat.mod_lt _ (by
   rcases Nat.eq_zero_or_pos sz with h|h
   ·subst h;simp at hk
   ·exact h)
  have hk':k<n*z.cells.size:=by rw[hzs];exact hk
  simp only[Builtin.zeroCells]
  simp[List.getD,hk',hzs,show k<n*sz from hk]
  rw[Array.getElem!_eq_getD,Array.getD_eq_getD_getElem?]
  have:k%sz<z.cells.size:=by omega
  simp[this]
 obtain⟨w',r1,r2,r3⟩:=rows_ok (P:=P) (ys:=List.replicate n zc) H hh g1 g2 g3 g4 g5 (by intro e he;rw[List.eq_of_mem_replicate he];exact hs) (us:=(Builtin.zeroCells z.cells n).toList) (by rw[hul];simp) (by
  intro i' j x hx'
  have hb:=at2_len hx' (sz:=sz) (by intro e he;rw[List.eq_of_mem_replicate he];exact hs)
  simp only[List.length_replicate]at hb
  have hj:zc[j]?=some x:=by
   unfold at2 at hx'
   rw[List.getElem?_replicate,if_pos hb.1]at hx'
   simpa using hx'
  have:=hcr.2 _ _ hj
  refine⟨this.1,?_⟩
  rw[hux _ hb.2.2]
  have e1:(i'*sz+j)%sz=j:=by rw[Nat.add_comm,Nat.add_mul_mod_self_right];exact Nat.mod_eq_of_lt hb.2.1
  rw[e1];exact this.2) (by
  intro v hv'
  obtain⟨k,hk,rfl⟩:=List.getElem_of_mem hv'
  rw[hul]at hk
  have e2:=hux k hk
  have hk2:k%sz<sz:=Nat.mod_lt _ (by
   rcases Nat.eq_zero_or_pos sz with h|h
   ·subst h;simp at hk
   ·exact h)
  have hj:=hcr.2 (k%sz) (zc[k%sz]'(by omega)) (by simp[show k%sz<zc.length by omega])
  have:=hj.2.one hj.1
  rw[←e2]at this
  rw[List.getD,List.getElem?_eq_getElem (by rw[hul];exact hk)]at this
  exact this) (by simpa using hfit)
 refine⟨.tuple #[],w',m,.inl ?_,r2,.pure _ _ (.tup [] #[] rfl (by intro i x h;simp at h)),r3⟩
 obtain⟨n',rfl⟩:∃n',n=n'+1:=⟨n-1,by omega⟩
 simp[execOp,ho,resolve,invoke,builtin,hv,Builtin.clear_,run_underlying hu,zeroValue,typeInfo,hi,hz,r1]
theorem op_clear0 [Bk] [Ev] {t:TypeId} {x:Operand} {e:TypeId} {els:List (List AV)} (ho:o.op=.call { callee:=.builtin .clear,args:=#[x],argTypes:=#[t] }) (hu:P.underlying t=some (.slice e)) (he:elsA h (aev f x)=some els) (h0:els.length=0):OpOk P o f h ⟨.tup [],[],idOf (aev f x)⟩:=by
 refine op_pure fun m A w a H F=>?_
 have h1:=F.eval x
 have hlen:∃ad cap,a.eval x=.slice ad els.length cap:=by
  generalize aev f x=y at h1 he
  generalize a.eval x=v at h1
  cases y with
  |emp =>
   simp only[elsA,Option.some.injEq]at he;subst he
   cases h1 with|pure _ _ hr=>cases hr with|emp a=>exact⟨a,0,rfl⟩
  |lit s els' =>
   simp only[elsA,Option.some.injEq]at he;subst he
   obtain⟨rfl,a,cap,rfl⟩|⟨b,off,cap,vs,rfl,-⟩:=h1.lit_inv
   ·exact⟨a,cap,rfl⟩
   ·exact⟨_,cap,rfl⟩
  |own T s id i n =>
   simp only[elsA]at he
   split at he
   ·rename_i T' sz' els0 hh
    split at he
    ·rename_i hc
     obtain⟨rfl,rfl,hle⟩:=hc
     cases he
     have hlen:((els0.drop i).take n).length=n:=by simp;omega
     rw[hlen]
     rcases H.cells id _ _ _ hh with⟨hv,rfl⟩|⟨b,cs,g1,g2,g3,g4,g5⟩
     ·cases h1 with
      |pure _ _ h=>cases h
      |own _ _ _ _ _ b _ hm=>rw[hv]at hm;cases hm
      |ownv _ _ _ _ a hm=>exact⟨a,0,rfl⟩
      |ownd _ _ _ _ _ _ _ _ hm=>rw[hv]at hm;cases hm
     ·obtain⟨cap,rfl,-⟩:=h1.at_own g1
      exact⟨_,cap,rfl⟩
    ·cases he
   ·cases he
  |_=>simp[elsA]at he
 obtain⟨ad,cap,hv⟩:=hlen
 rw[h0]at hv
 refine⟨.tuple #[],?_,.pure _ _ (.tup [] #[] rfl (by intro i x h;simp at h))⟩
 cases ad<;>simp[execOp,ho,resolve,invoke,builtin,hv,Builtin.clear_,run_underlying hu]
end
end Go.Proofs.Ytjccjmmbebiegaa.Mc
set_option linter.unusedVariables false
set_option linter.unusedSimpArgs false
namespace Go.Proofs.Ytjccjmmbebiegaa.Mc
open Go.RowKit
section
variable {P:Program} {o:Oper} {f:List AV} {h:AH}
theorem HRel.other_put [Bk] [Ev] {m:Nat→St} {A:Nat→Prop} {w:World} (H:HRel m A h w) {id b:Nat} {B B':Blk} {o o':Obj} (hh:h id=B) (hB:B.other=true) (hB':B'.other=true) (hb:m id=.at b) (hL:w.heap[b]?=some o) (hr:rowSize (w.putObj b o') b=rowSize w b) (hO:Ext m w m (w.putObj b o')→OtherOk m A (w.putObj b o') b B') :
  HRel m A (bset h id B') (w.putObj b o')∧Ext m w m (w.putObj b o'):=by
 have hsz:(w.putObj b o').heap.size=w.heap.size:=World.putObj_size
 have hot:∀k,k≠b→(w.putObj b o').heap[k]?=w.heap[k]?:=fun k e=>World.putObj_heap_other e
 have hsame:(w.putObj b o').heap[b]?=some o':=World.putObj_heap_same (Array.getElem?_eq_some_iff.1 hL).1
 have E:Ext m w m (w.putObj b o'):=by
  refine⟨rfl,rfl,rfl,by rw[hsz];exact Nat.le_refl _,fun _ _ h=>.inl h,fun _ h=>h,fun _ h=>.inl h,?_,?_⟩
  ·intro k hk hu
   exact⟨hu,hot k (by rintro rfl;exact hu id hb)⟩
  ·intro id' k hk1 hk2
   by_cases e:k=b
   ·subst e;exact hr
   ·simp[rowSize,hot k e]
 refine⟨⟨H.out,fun k hk=>by rw[hsz];exact H.old k hk,?_,?_,?_,H.inj,H.glob.ext H.out E,?_,ScOk.set H.scs (ScOk.of_other (Blk.other_els hB'))⟩,E⟩
 ·intro k hk
  unfold bset at hk
  split at hk
  ·subst hk;exact absurd hB' (by simp[Blk.other])
  ·exact H.no k hk
 ·intro k hk
  unfold bset at hk
  split at hk
  ·subst hk;exact absurd hB' (by simp[Blk.other])
  ·exact H.dead k hk
 ·intro k T sz els hk
  unfold bset at hk
  split at hk
  ·rw[Blk.other_els hB']at hk;cases hk
  ·rename_i hne
   obtain g|⟨b',cs,g1,g2,g3,g4,g5⟩:=H.arrs k T sz els hk
   ·exact .inl g
   ·exact .inr ⟨b',cs,g1,(hot b' (by rintro rfl;exact hne (H.inj k id b' g1 hb))).trans g2,g3,g4,fun i j x hx=>⟨(g5 i j x hx).1,(g5 i j x hx).2.ext E⟩⟩
 ·intro k B1 hk hB1
  unfold bset at hk
  split at hk
  ·rename_i e
   subst hk
   subst e
   exact⟨b,hb,hO E⟩
  ·rename_i hne
   obtain⟨b',g1,g2⟩:=H.others k B1 hk hB1
   exact⟨b',g1,g2.ext E (hot b' (by rintro rfl;exact hne (H.inj k id b' g1 hb)))⟩
theorem HRel.other_new [Bk] [Ev] {m:Nat→St} {A:Nat→Prop} {w:World} (H:HRel m A h w) {id:Nat} {B:Blk} {o:Obj} (hid:h id=.no) (hB:B.other=true) (hO:Ext m w (sset m id (.at w.heap.size)) (w.alloc o)→OtherOk (sset m id (.at w.heap.size)) A (w.alloc o) w.heap.size B) :
  HRel (sset m id (.at w.heap.size)) A (bset h id B) (w.alloc o)∧Ext m w (sset m id (.at w.heap.size)) (w.alloc o):=by
 have hmid:=H.no id hid
 have ne:∀{k:Nat} {s:St},m k=s→s≠.no→k≠id:=by rintro k s h1 h2 rfl;rw[hmid]at h1;exact h2 h1.symm
 have hold:∀b,b<w.heap.size→(w.alloc o).heap[b]?=w.heap[b]?:=fun b hb=>by
  show(w.heap.push _)[b]?=_
  rw[Array.getElem?_push,if_neg (by omega)]
 have E:Ext m w (sset m id (.at w.heap.size)) (w.alloc o):=by
  refine⟨rfl,rfl,rfl,by simp,?_,?_,?_,?_,?_⟩
  ·intro k b hb
   exact .inl (by rw[sset,if_neg (ne hb (by simp))];exact hb)
  ·intro k hk
   rw[sset,if_neg (ne hk (by simp))];exact hk
  ·intro k hk
   exact .inl (by rw[sset,if_neg (ne hk (by simp))];exact hk)
  ·intro b hb hu
   refine⟨?_,hold b hb⟩
   intro k
   unfold sset
   split
   ·intro e;cases e;omega
   ·exact hu k
  ·intro k b h1 h2
   simp[rowSize,hold b (H.lt h1)]
 refine⟨⟨?_,fun b hb=>by have:=H.old b hb;simp;omega,?_,?_,?_,?_,H.glob.ext H.out E,?_,ScOk.set H.scs (ScOk.of_other (Blk.other_els hB))⟩,E⟩
 ·intro k b hk hA
  unfold sset at hk
  split at hk
  ·cases hk;have:=H.old _ hA;omega
  ·exact H.out k b hk hA
 ·intro k hk
  unfold bset at hk;unfold sset
  split at hk
  ·subst hk;exact absurd hB (by simp[Blk.other])
  ·rename_i hne;rw[if_neg hne];exact H.no k hk
 ·intro k hk
  unfold bset at hk;unfold sset
  split at hk
  ·subst hk;exact absurd hB (by simp[Blk.other])
  ·rename_i hne;rw[if_neg hne];exact H.dead k hk
 ·intro k T' sz' els' hk
  unfold bset at hk
  split at hk
  ·rw[Blk.other_els hB]at hk;cases hk
  ·rename_i hne
   obtain⟨g1,g2⟩|⟨b,cs',g1,g2,g3,g4,g5⟩:=H.arrs k T' sz' els' hk
   ·exact .inl ⟨by simp[sset,hne,g1],g2⟩
   ·exact .inr ⟨b,cs',by simp[sset,hne,g1],by rw[hold b (H.lt g1)];exact g2,g3,g4,fun i j x hx=>⟨(g5 i j x hx).1,(g5 i j x hx).2.ext E⟩⟩
 ·intro i j b hi hj
  unfold sset at hi hj
  split at hi<;>split at hj
  ·rename_i a c;rw[a,c]
  ·cases hi;have:=H.lt hj;omega
  ·cases hj;have:=H.lt hi;omega
  ·exact H.inj i j b hi hj
 ·intro k B1 hk hB1
  unfold bset at hk
  split at hk
  ·rename_i e
   subst hk
   subst e
   exact⟨w.heap.size,by simp[sset],hO E⟩
  ·rename_i hne
   obtain⟨b',g1,g2⟩:=H.others k B1 hk hB1
   exact⟨b',by simp[sset,hne,g1],g2.ext E (hold b' (H.lt g1))⟩
theorem op_range [Bk] [Ev] {t:TypeId} {x:Operand} {s:ByteArray} {id:Nat} (ho:o.op=.range t x) (hu:P.underlying t=some .string) (hx:aev f x=.c (.string s)) (hid:h id=.no):OpOk P o f h ⟨.ptr 0 id 0 0,[(id,.it s 0)],[id]⟩:=by
 intro m A w a H F
 have h1:=F.eval x
 rw[hx]at h1
 have e1:=h1.c_inv
 obtain⟨h2,h3⟩:=H.other_new (B:=.it s 0) (o:=.stringIter s 0) hid rfl fun E=>World.alloc_heap_new w _
 refine⟨.pointer (some ⟨w.heap.size,0,none⟩),_,_,.inl ?_,h2,?_,h3⟩
 ·simp[execOp,ho,e1,Instr.range,run_underlying hu]
 ·have:=Rd.ptr (m:=sset m id (.at w.heap.size)) (A:=A) (w:=w.alloc (.stringIter s 0)) 0 id 0 0 w.heap.size (by simp[sset]) (by simp)
  simpa using this
theorem op_next [Bk] [Ev] {x:Operand} {s:ByteArray} {pos id:Nat} (ho:o.op=.next x true) (hx:aev f x=.ptr 0 id 0 0) (hh:h id=.it s pos) (hl:pos<s.size) :
  OpOk P o f h ⟨.tup [.c (.bool true),.c (.int .i64 pos),.c (.int .i32 (Utf8.decode s pos).1)],[(id,.it s (pos+(Utf8.decode s pos).2))],[id]⟩:=by
 intro m A w a H F
 have h1:=F.eval x
 rw[hx]at h1
 obtain⟨b,hb,hO⟩:=H.others id _ hh rfl
 have e1:=h1.at_ptr hb
 have hO':w.heap[b]?=some (.stringIter s pos):=hO
 have hlt:=(Array.getElem?_eq_some_iff.1 hO').1
 have hsame:(w.putObj b (.stringIter s (pos+(Utf8.decode s pos).2))).heap[b]?=some (.stringIter s (pos+(Utf8.decode s pos).2)):=World.putObj_heap_same hlt
 obtain⟨h2,h3⟩:=H.other_put (B':=.it s (pos+(Utf8.decode s pos).2)) hh rfl rfl hb hO' (by simp[rowSize,hsame,hO']) fun E=>hsame
 refine⟨.tuple #[.bool true,goInt pos,.int .i32 (Utf8.decode s pos).1],_,_,.inl ?_,h2,?_,h3⟩
 ·simp[execOp,ho,e1,Instr.next,getObj,setObj,Sem.run,hO',hl]
  rfl
 ·refine .pure _ _ (.tup _ _ rfl ?_)
  intro i y hy
  rcases i with _|_|_|i<;>simp at hy<;>subst hy<;>exact .c _
theorem op_next_end [Bk] [Ev] {x:Operand} {s:ByteArray} {pos id:Nat} (ho:o.op=.next x true) (hx:aev f x=.ptr 0 id 0 0) (hh:h id=.it s pos) (hl:¬ pos<s.size) :
  OpOk P o f h ⟨.tup [.c (.bool false)],[],[id]⟩:=by
 intro m A w a H F
 have h1:=F.eval x
 rw[hx]at h1
 obtain⟨b,hb,hO⟩:=H.others id _ hh rfl
 have e1:=h1.at_ptr hb
 have hO':w.heap[b]?=some (.stringIter s pos):=hO
 refine⟨.tuple #[.bool false],w,m,.inl ?_,H,?_,Ext.refl _ _⟩
 ·simp[execOp,ho,e1,Instr.next,getObj,Sem.run,hO',hl]
 ·refine .pure _ _ (.tup _ _ rfl ?_)
  intro i y hy
  rcases i with _|i<;>simp at hy
  subst hy;exact .c _
theorem op_makeMap [Bk] [Ev] {t:TypeId} {id:Nat} (ho:o.op=.makeMap t none) (hid:h id=.no):OpOk P o f h ⟨.mpv id,[(id,.mp [])],[id]⟩:=by
 intro m A w a H F
 obtain⟨h2,h3⟩:=H.other_new (B:=.mp []) (o:=.map #[] 0) hid rfl fun E=>⟨#[],0,World.alloc_heap_new w _,rfl,fun i k x hx=>by simp at hx⟩
 refine⟨.map (some w.heap.size),_,_,.inl ?_,h2,.mpv _ _ (by simp[sset]),h3⟩
 simp[execOp,ho,Instr.makeMap]
theorem Rd.at_view [Bk] [Ev] {m:Nat→St} {A:Nat→Prop} {w:World} {T sz id i n b:Nat} {u:Value} (h:Rd m A w (.view T sz id i n) u) (g:m id=.at b):∃cap,u=.slice (some ⟨b,i*sz,none⟩) n cap:=by
 cases h with
 |pure _ _ h=>cases h
 |view _ _ _ _ _ b' cap hm=>rw[g]at hm;cases hm;exact⟨cap,rfl⟩
 |viewd _ _ _ _ _ _ _ hm=>rw[g]at hm;cases hm
theorem op_slice_view [Bk] [Ev] {t:TypeId} {x lo hi mx:Operand} {T sz id i n l u v:Nat} {els:List (List AV)} (ho:o.op=.slice t x (some lo) (some hi) (some mx)) (ht:P.underlying t=some (.slice (P.elem t))) (hs:(P.info? (P.elem t)).map (·.size)=some sz) (hx:aev f x=.own T sz id i n) (hh:h id=.cells T sz els) (hne:els≠[]) (hlo:bndR (aev f) 0 (some lo)=some l) (hhi:bndR (aev f) n (some hi)=some u) (hmx:bndR (aev f) n (some mx)=some v) (h1:l≤u) (h2:u≤v) (h3:v≤n) (h4:l<v) :
  OpOk P o f h ⟨.view T sz id (i+l) (u-l),[],[id]⟩:=by
 refine op_pure fun m A w a H F=>?_
 have g:=F.eval x
 rw[hx]at g
 cases hp:P.info? (P.elem t)with
 |none=>simp[hp]at hs
 |some ti =>
  simp only[hp,Option.map_some,Option.some.injEq]at hs
  subst hs
  obtain⟨e,r,rfl⟩:=List.exists_cons_of_ne_nil hne
  obtain⟨b,cs,g1,-⟩:=H.block (i:=0) hh rfl
  obtain⟨cap,hv,hn,hcm,hrow⟩:=g.at_own g1
  obtain⟨k1,e1⟩:=bndA_ok F hlo
  obtain⟨k2,e2⟩:=bndA_ok F hhi
  obtain⟨k3,e3⟩:=bndA_ok F hmx
  have hr:=run_slice_lhm (P:=P) w t (some ⟨b,i*ti.size,none⟩) n cap ht k1 k2 k3 (l:Int) (u:Int) (v:Int) (by omega) (by omega) (by omega) (by omega)
  have hr2:(Instr.sliceAt t (.slice (some ⟨b,i*ti.size,none⟩) n cap) (some (.int k1 l)) (some (.int k2 u)) (some (.int k3 v))).run P w=.ok (sliced (some ⟨b,i*ti.size,none⟩) l u v ti.size) w:=by
   rw[run_sliceAt_slice (P:=P) w t _ _ _ _ ht]
   simp[hr,sizeOf,typeInfo,hp]
  have hal:sliced (some ⟨b,i*ti.size,none⟩) l u v ti.size=.slice (some ⟨b,(i+l)*ti.size,none⟩) (u-l) (v-l):=by
   unfold sliced
   rw[if_neg (by omega)];simp[addr_add,Nat.add_mul]
  refine⟨_,by simp[execOp,ho,hv,e1,e2,e3,hr2];rfl,?_⟩
  rw[hal]
  exact .view T ti.size id (i+l) (u-l) b (v-l) g1
theorem op_slice_lit3 [Bk] [Ev] {t:TypeId} {x lo hi mx:Operand} {sz l u v:Nat} {els:List (List AV)} (ho:o.op=.slice t x (some lo) (some hi) (some mx)) (ht:P.underlying t=some (.slice (P.elem t))) (hs:(P.info? (P.elem t)).map (·.size)=some sz) (hx:aev f x=.lit sz els) (hlo:bndR (aev f) 0 (some lo)=some l) (hhi:bndR (aev f) 0 (some hi)=some u) (hmx:bndR (aev f) 0 (some mx)=some v) (h1:l≤u) (h2:u≤v) (h3:v≤els.length) (hne:els≠[]) :
  OpOk P o f h ⟨.lit sz ((els.drop l).take (u-l)),[],[]⟩:=by
 refine op_pure fun m A w a H F=>?_
 have g:=F.eval x
 rw[hx]at g
 cases hp:P.info? (P.elem t)with
 |none=>simp[hp]at hs
 |some ti =>
  simp only[hp,Option.map_some,Option.some.injEq]at hs
  subst hs
  obtain⟨k1,e1⟩:=bndA_ok F hlo
  obtain⟨k2,e2⟩:=bndA_ok F hhi
  obtain⟨k3,e3⟩:=bndA_ok F hmx
  have key:∀(ad:Option Addr) (cap:Nat),els.length≤cap→(Instr.sliceAt t (.slice ad els.length cap) (some (.int k1 l)) (some (.int k2 u)) (some (.int k3 v))).run P w=.ok (sliced ad l u v ti.size) w:=by
   intro ad cap hcap
   have hr:=run_slice_lhm (P:=P) w t ad els.length cap ht k1 k2 k3 (l:Int) (u:Int) (v:Int) (by omega) (by omega) (by omega) (by omega)
   rw[run_sliceAt_slice (P:=P) w t _ _ _ _ ht]
   simp[hr,sizeOf,typeInfo,hp]
  have hlen:((els.drop l).take (u-l)).length=u-l:=by simp;omega
  obtain⟨h0,ad,cap,hv⟩|⟨b,off,cap,vs,hv,hA,hb,hc,hsz,q1,kv,kr⟩:=g.lit_inv
  ·exact absurd h0 hne
  ·have hr:=key (some ⟨b,off,none⟩) cap hc
   refine⟨_,by simp[execOp,ho,hv,e1,e2,e3,hr];rfl,.pure _ _ ?_⟩
   unfold sliced
   by_cases hlu:l=u
   ·subst hlu
    simp only[Nat.sub_self,List.take_zero]
    exact .lit0 _ _ _ (by rw[hv]at g;have:=g.lit_max;omega)
   ·rw[if_neg (by omega)]
    have:=RdL.lit (A:=Av m A) (w:=w) ti.size ((els.drop l).take (u-l)) b (off+l*ti.size) (v-l) (fun i j=>vs (l+i) j) hA hb ⟨by rw[hlen];omega,by rw[hv]at g;have:=g.lit_max;omega⟩ (fun e he=>hsz e (List.mem_of_mem_drop (List.mem_of_mem_take he))) (fun i j y hy=>q1 _ _ _ (drop_at2 hy).2)
     (fun i j y hy=>by have:=kv _ _ _ (drop_at2 hy).2;rw[←this];congr 2;rw[Nat.add_mul];omega) (fun i j y hy=>kr _ _ _ (drop_at2 hy).2)
    rw[hlen]at this
    simpa[addr_add]using this
theorem op_slice_emp3 [Bk] [Ev] {t:TypeId} {x lo hi mx:Operand} {T sz id i n l:Nat} {els:List (List AV)} (ho:o.op=.slice t x (some lo) (some hi) (some mx)) (ht:P.underlying t=some (.slice (P.elem t))) (hs:(P.info? (P.elem t)).map (·.size)=some sz) (hx:aev f x=.own T sz id i n) (hh:h id=.cells T sz els) (hne:els≠[]) (hlo:bndR (aev f) 0 (some lo)=some l) (hhi:bndR (aev f) n (some hi)=some l) (hmx:bndR (aev f) n (some mx)=some l) (h3:l≤n) :
  OpOk P o f h ⟨.emp,[],[id]⟩:=by
 refine op_pure fun m A w a H F=>?_
 have g:=F.eval x
 rw[hx]at g
 cases hp:P.info? (P.elem t)with
 |none=>simp[hp]at hs
 |some ti =>
  obtain⟨e,r,rfl⟩:=List.exists_cons_of_ne_nil hne
  obtain⟨b,cs,g1,-⟩:=H.block (i:=0) hh rfl
  obtain⟨cap,hv,hn,hcm,hrow⟩:=g.at_own g1
  obtain⟨k1,e1⟩:=bndA_ok F hlo
  obtain⟨k2,e2⟩:=bndA_ok F hhi
  obtain⟨k3,e3⟩:=bndA_ok F hmx
  have hr:=run_slice_lhm (P:=P) w t (some ⟨b,i*sz,none⟩) n cap ht k1 k2 k3 (l:Int) (l:Int) (l:Int) (by omega) (by omega) (by omega) (by omega)
  have hr2:(Instr.sliceAt t (.slice (some ⟨b,i*sz,none⟩) n cap) (some (.int k1 l)) (some (.int k2 l)) (some (.int k3 l))).run P w=.ok (sliced (some ⟨b,i*sz,none⟩) l l l ti.size) w:=by
   rw[run_sliceAt_slice (P:=P) w t _ _ _ _ ht]
   simp[hr,sizeOf,typeInfo,hp]
  refine⟨_,by simp[execOp,ho,hv,e1,e2,e3,hr2];rfl,?_⟩
  unfold sliced
  rw[Nat.sub_self]
  exact .pure _ _ (.emp _)
theorem op_len_view [Bk] [Ev] {t:TypeId} {x:Operand} {e:TypeId} {T sz id i n:Nat} (ho:o.op=.call { callee:=.builtin .len,args:=#[x],argTypes:=#[t] }) (hu:P.underlying t=some (.slice e)) (hx:aev f x=.view T sz id i n):OpOk P o f h ⟨.c (.int .i64 n),[],[]⟩:=by
 refine op_pure fun m A w a H F=>?_
 have h1:=F.eval x
 rw[hx]at h1
 have:∃ad cap,a.eval x=.slice ad n cap:=by
  generalize a.eval x=u at h1
  cases h1 with
  |pure _ _ h=>cases h
  |view _ _ _ _ _ b' cap hm=>exact⟨_,_,rfl⟩
  |viewd _ _ _ _ _ ad cap hm=>exact⟨_,_,rfl⟩
 obtain⟨ad,cap,hv⟩:=this
 refine⟨_,?_,.pure _ _ (.c _)⟩
 simp[execOp,ho,resolve,invoke,builtin,hv,Builtin.len_,run_underlying hu,goInt]
theorem op_indexAddr_view [Bk] [Ev] {t e:TypeId} {x ix:Operand} {T sz id i n':Nat} {els:List (List AV)} {el:List AV} {k:IntKind} {n:Int} (ho:o.op=.indexAddr t x ix) (hx:aev f x=.view T sz id i n') (hh:h id=.cells T sz els) (hi:aev f ix=.c (.int k n)) (hu:P.underlying t=some (.slice e)) (hs:(P.info? e).map (·.size)=some sz) (h0:0≤n) (hn:n.toNat<n') (he:els[i+n.toNat]?=some el) :
  OpOk P o f h ⟨.ptr sz id (i+n.toNat) 0,[],[id]⟩:=by
 refine op_pure fun m A w a H F=>?_
 have h1:=F.eval x
 rw[hx]at h1
 have h2:=F.eval ix
 rw[hi]at h2
 have e2:=h2.c_inv
 obtain⟨b,cs,g1,-⟩:=H.block hh he
 obtain⟨cap,hv⟩:=h1.at_view g1
 cases hp:P.info? e with
 |none=>simp[hp]at hs
 |some ti =>
  simp only[hp,Option.map_some,Option.some.injEq]at hs
  have hlt:n<(n':Int):=by omega
  refine⟨.pointer (some ⟨b,(i+n.toNat)*sz+0,none⟩),?_,.ptr sz id _ 0 b g1 (H.lt g1)⟩
  simp[execOp,ho,hv,e2,Instr.indexAt,asIntOf,run_underlying hu,h0,hlt,sizeOf,typeInfo,hp,hs,addr_add,Nat.add_mul]
def noKey (n:Int) (es:List (Int×AV)):Bool:=es.all fun t=>t.1 != n
def lookMp (n:Int) (es:List (Int×AV)):Option AV:=match es.filter (fun t=>t.1==n)with|[t]=>some t.2|_=>none
theorem Rd.at_mpv [Bk] [Ev] {m:Nat→St} {A:Nat→Prop} {w:World} {id b:Nat} {u:Value} (h:Rd m A w (.mpv id) u) (g:m id=.at b):u=.map (some b):=by
 cases h with
 |pure _ _ h=>cases h
 |mpv _ b' hm=>rw[g]at hm;cases hm;rfl
 |mpvd _ b' hm=>rw[g]at hm;cases hm
theorem mp_keys [Bk] [Ev] {m:Nat→St} {A:Nat→Prop} {w:World} {es:List (Int×AV)} {ms:Array MapEntry} (h2:ms.size=es.length) (h3:∀(i:Nat) (k:Int) (x:AV),es[i]?=some (k,x)→∃e,ms[i]?=some e∧e.key=.int .i64 k∧Rd m A w x e.val) {i:Nat} {e:MapEntry} (he:ms.toList[i]?=some e) :
  ∃k x,es[i]?=some (k,x)∧e.key=.int .i64 k∧Rd m A w x e.val:=by
 have hi:i<es.length:=by have:=(List.getElem?_eq_some_iff.1 he).1;simpa[h2]using this
 obtain⟨e',g1,g2,g3⟩:=h3 i es[i].1 es[i].2 (by simp[hi])
 rw[Array.getElem?_toList]at he
 rw[he]at g1
 cases g1
 exact⟨es[i].1,es[i].2,by simp[hi],g2,g3⟩
theorem mp_isKey [Bk] [Ev] {m:Nat→St} {A:Nat→Prop} {w:World} {es:List (Int×AV)} {ms:Array MapEntry} (h2:ms.size=es.length) (h3:∀(i:Nat) (k:Int) (x:AV),es[i]?=some (k,x)→∃e,ms[i]?=some e∧e.key=.int .i64 k∧Rd m A w x e.val) :
  ∀e∈ms.toList,MapKept.IsKey (.int .i64) e.key:=by
 intro e he
 obtain⟨i,hi⟩:=List.mem_iff_getElem?.1 he
 obtain⟨k,x,-,g,-⟩:=mp_keys h2 h3 hi
 rw[g];simp[MapKept.IsKey]
theorem op_insert [Bk] [Ev] {t kt et:TypeId} {x k y:Operand} {id:Nat} {n:Int} {es:List (Int×AV)} (ho:o.op=.insert t x k y) (hu:P.underlying t=some (.map kt et)) (hk:P.underlying kt=some (.int .i64)) (hx:aev f x=.mpv id) (hn:aev f k=.c (.int .i64 n)) (hh:h id=.mp es) (hf:noKey n es=true) :
  OpOk P o f h ⟨.undef,[(id,.mp (es++[(n,aev f y)]))],[id]⟩:=by
 intro m A w a H F
 have h1:=F.eval x
 have h1n:=F.eval k
 rw[hx]at h1
 rw[hn]at h1n
 obtain⟨b,hb,ms,clock,hm,h2,h3⟩:=H.others id _ hh rfl
 have e1:=h1.at_mpv hb
 have e2:=h1n.c_inv
 have hlt:=(Array.getElem?_eq_some_iff.1 hm).1
 have hsame:(w.putObj b (.map (ms.push { key:=.int .i64 n,val:=a.eval y,born:=clock }) (clock+1))).heap[b]?=some (.map (ms.push { key:=.int .i64 n,val:=a.eval y,born:=clock }) (clock+1)):=World.putObj_heap_same hlt
 obtain⟨q1,q2⟩:=H.other_put (B':=.mp (es++[(n,aev f y)])) (o':=.map (ms.push { key:=.int .i64 n,val:=a.eval y,born:=clock }) (clock+1)) hh rfl rfl hb hm (by simp[rowSize,hsame,hm]) fun E=>by
  refine⟨_,_,hsame,by simp[h2],?_⟩
  intro i k' x' hi
  rcases Nat.lt_or_ge i es.length with hl|hl
  ·rw[List.getElem?_append_left hl]at hi
   obtain⟨e,g1,g2,g3⟩:=h3 i k' x' hi
   exact⟨e,by rw[Array.getElem?_push_lt (by omega)];rw[←g1];simp[show i<ms.size by omega],g2,g3.ext E⟩
  ·rw[List.getElem?_append_right hl]at hi
   have:i-es.length=0:=by
    have:=(List.getElem?_eq_some_iff.1 hi).1
    simp at this;omega
   rw[this]at hi
   simp at hi
   obtain⟨rfl,rfl⟩:=hi
   have hi2:i=ms.size:=by omega
   subst hi2
   exact⟨_,Array.getElem?_push_size,rfl,(F.eval y).ext E⟩
 refine⟨Go.undef,_,_,.inr ⟨?_,rfl⟩,q1,.pure _ _ .undef,q2⟩
 have hfn:Instr.findNow (.int .i64) (.int .i64 n) ms.toList 0=some none:=by
  rcases MapKept.findNow_spec (d:=.int .i64) (k:=.int .i64 n) (by simp[MapKept.IsKey]) ms.toList 0 (mp_isKey h2 h3)with⟨g,-⟩|⟨j,e,-,g2,g3⟩
  ·exact g
  ·exfalso
   obtain⟨k',x',r1,r2,-⟩:=mp_keys h2 h3 g2
   rw[g3]at r2
   have:=List.all_eq_true.1 hf _ (List.mem_of_getElem? r1)
   simp at this r2
   exact this r2.symm
 simp[execOp,ho,e1,e2,Instr.mapUpdate,run_underlying hu,MapKept.run_getObj_map hm,MapKept.run_checkKey hk (k:=.int .i64 n) (by simp[MapKept.IsKey]),MapKept.run_findKey hk hfn,setObj,Sem.run,hm]
 rfl
theorem op_lookup [Bk] [Ev] {t kt et:TypeId} {x k:Operand} {id:Nat} {n:Int} {es:List (Int×AV)} {v:AV} {ok:Bool} (ho:o.op=.lookup t x k ok) (hu:P.underlying t=some (.map kt et)) (hk:P.underlying kt=some (.int .i64)) (hx:aev f x=.mpv id) (hn:aev f k=.c (.int .i64 n)) (hh:h id=.mp es) (hf:lookMp n es=some v) :
  OpOk P o f h ⟨if ok then .tup [v,.c (.bool true)]else v,[],[id]⟩:=by
 intro m A w a H F
 have h1:=F.eval x
 have h1n:=F.eval k
 rw[hx]at h1
 rw[hn]at h1n
 obtain⟨b,hb,ms,clock,hm,h2,h3⟩:=H.others id _ hh rfl
 have e1:=h1.at_mpv hb
 have e2:=h1n.c_inv
 have hfl:es.filter (fun t=>t.1==n)=[(n,v)]:=by
  unfold lookMp at hf
  split at hf
  ·rename_i t ht
   cases hf
   have:t∈es.filter (fun t=>t.1==n):=by rw[ht];simp
   have:=(List.mem_filter.1 this).2
   simp at this
   rw[ht,←this]
  ·cases hf
 obtain⟨j,e,g1,g2,g3⟩:∃j e,Instr.findNow (.int .i64) (.int .i64 n) ms.toList 0=some (some (0+j,e.val))∧ms.toList[j]?=some e∧e.key=.int .i64 n:=by
  rcases MapKept.findNow_spec (d:=.int .i64) (k:=.int .i64 n) (by simp[MapKept.IsKey]) ms.toList 0 (mp_isKey h2 h3)with⟨-,g⟩|g
  ·exfalso
   have hm':(n,v)∈es:=by
    have:(n,v)∈es.filter (fun t=>t.1==n):=by rw[hfl];simp
    exact(List.mem_filter.1 this).1
   obtain⟨i,hi⟩:=List.mem_iff_getElem?.1 hm'
   obtain⟨e,r1,r2,-⟩:=h3 i n v hi
   exact g e (by rw[←Array.getElem?_toList]at r1;exact List.mem_of_getElem? r1) r2
  ·exact g
 obtain⟨k',x',r1,r2,r3⟩:=mp_keys h2 h3 g2
 have hkx:k'=n∧x'=v:=by
  rw[g3]at r2
  simp at r2
  subst r2
  have:(n,x')∈es.filter (fun t=>t.1==n):=List.mem_filter.2 ⟨List.mem_of_getElem? r1,by simp⟩
  rw[hfl]at this
  simpa using this
 obtain⟨rfl,rfl⟩:=hkx
 cases ok with
 |true =>
  refine⟨.tuple #[e.val,.bool true],w,m,.inl ?_,H,?_,Ext.refl _ _⟩
  ·simp[execOp,ho,e1,e2,Instr.lookup,run_underlying hu,MapKept.run_getObj_map hm,MapKept.run_checkKey hk (k:=.int .i64 k') (by simp[MapKept.IsKey]),MapKept.run_findKey hk g1]
  ·refine .tup _ _ rfl ?_
   intro i y hy
   rcases i with _|_|i<;>simp at hy<;>subst hy
   ·exact r3
   ·exact .pure _ _ (.c _)
 |false =>
  refine⟨e.val,w,m,.inl ?_,H,by simpa using r3,Ext.refl _ _⟩
  simp[execOp,ho,e1,e2,Instr.lookup,run_underlying hu,MapKept.run_getObj_map hm,MapKept.run_checkKey hk (k:=.int .i64 k') (by simp[MapKept.IsKey]),MapKept.run_findKey hk g1]
theorem op_lookup_no [Bk] [Ev] {t kt et:TypeId} {x k:Operand} {id:Nat} {n:Int} {es:List (Int×AV)} {ti:TypeInfo} {z:Value} {ok:Bool} (ho:o.op=.lookup t x k ok) (hu:P.underlying t=some (.map kt et)) (hk:P.underlying kt=some (.int .i64)) (hi:P.info? et=some ti) (hz:ti.zero=some z) (hx:aev f x=.mpv id) (hn:aev f k=.c (.int .i64 n)) (hh:h id=.mp es) (hf:noKey n es=true) :
  OpOk P o f h ⟨if ok then .tup [ofC z,.c (.bool false)]else ofC z,[],[id]⟩:=by
 intro m A w a H F
 have h1:=F.eval x
 have h1n:=F.eval k
 rw[hx]at h1
 rw[hn]at h1n
 obtain⟨b,hb,ms,clock,hm,h2,h3⟩:=H.others id _ hh rfl
 have e1:=h1.at_mpv hb
 have e2:=h1n.c_inv
 have hfn:Instr.findNow (.int .i64) (.int .i64 n) ms.toList 0=some none:=by
  rcases MapKept.findNow_spec (d:=.int .i64) (k:=.int .i64 n) (by simp[MapKept.IsKey]) ms.toList 0 (mp_isKey h2 h3)with⟨g,-⟩|⟨j,e,-,g2,g3⟩
  ·exact g
  ·exfalso
   obtain⟨k',x',r1,r2,-⟩:=mp_keys h2 h3 g2
   rw[g3]at r2
   have:=List.all_eq_true.1 hf _ (List.mem_of_getElem? r1)
   simp at this r2
   exact this r2.symm
 have hzv:(zeroValue et).run P w=.ok z w:=by simp[zeroValue,typeInfo,hi,hz]
 cases ok with
 |true =>
  refine⟨.tuple #[z,.bool false],w,m,.inl ?_,H,?_,Ext.refl _ _⟩
  ·simp[execOp,ho,e1,e2,Instr.lookup,run_underlying hu,MapKept.run_getObj_map hm,MapKept.run_checkKey hk (k:=.int .i64 n) (by simp[MapKept.IsKey]),MapKept.run_findKey hk hfn,hzv]
  ·refine .tup _ _ rfl ?_
   intro i y hy
   rcases i with _|_|i<;>simp at hy<;>subst hy
   ·exact .pure _ _ (RdL_ofC _ _ _)
   ·exact .pure _ _ (.c _)
 |false =>
  refine⟨z,w,m,.inl ?_,H,.pure _ _ (RdL_ofC _ _ _),Ext.refl _ _⟩
  simp[execOp,ho,e1,e2,Instr.lookup,run_underlying hu,MapKept.run_getObj_map hm,MapKept.run_checkKey hk (k:=.int .i64 n) (by simp[MapKept.IsKey]),MapKept.run_findKey hk hfn,hzv]
end
end Go.Proofs.Ytjccjmmbebiegaa.Mc
set_option linter.unusedVariables false
set_option linter.unusedSimpArgs false
namespace Go.Proofs.Ytjccjmmbebiegaa.Mc
open Go.RowKit
def newB (h:AH) (nx:Nat):Bool:=match h nx with | .no=>true|_=>false
theorem newB_iff [Bk] [Ev] {h:AH} {nx:Nat} (k:newB h nx=true):h nx=.no:=by unfold newB at k;split at k<;>first|assumption|cases k
def isSliceB (P:Program) (t:TypeId):Bool:=match P.underlying t with|some (.slice _)=>true|_=>false
def ownSz (y:AV) (n:Nat):Bool:=match y with | .own _ s _ _ _=>s==n|_=>true
def appendA (P:Program) (t:TypeId) (x y:AV) (h:AH) (nx:Nat):Option AR :=
 match P.underlying t with
 |some (.slice e)=>match P.info? e with
  |some i=>match i.zero with
   |some z=>match baseA h e i.size x,elsA h y with
    |some (els,k,rd),some ys =>
     if z.cells.size=i.size∧0<i.size∧(ys.all fun q=>q.length==i.size)=true∧ownSz y i.size=true∧(els.length+ys.length)*i.bytes≤140737488355328∧els.length+ys.length≤1099511627776∧newB h nx=true then
      some ⟨.own e i.size nx 0 (els.length+ys.length),k++[(nx,.cells e i.size (els++ys))],nx::rd++idOf y⟩
     else none
    |_,_=>none
   |none=>none
  |none=>none
 |_=>none
def elemSize (P:Program) (t:TypeId):Option Nat:=(P.info? t).map (·.size)
def aop [Bk] (P:Program) (op:Op) (ρ:Operand→AV) (h:AH) (nx:Nat):Option AR :=
 match op with
 | .move x=>some ⟨ρ x,[],[]⟩
 | .assign x=>some ⟨ρ x,[],[]⟩
 | .pick c x y=>match ρ c with
  | .c (.bool b)=>some ⟨bif b then ρ x else ρ y,[],[]⟩
  |_=>none
 | .alloc e=>match P.info? e with
  |some i=>match i.zero with
   |some z=>match cellsA (ofC z)with
    |some cs=>if newB h nx then some ⟨.ptr cs.length nx 0 0,[(nx,.cells e cs.length [cs])],[nx]⟩else none
    |none=>none
   |none=>none
  |none=>none
 | .box e x=>match cellsA (ρ x)with
  |some cs=>if newB h nx then some ⟨.ptr cs.length nx 0 0,[(nx,.cells e cs.length [cs])],[nx]⟩else none
  |none=>none
 | .build t parts=>match builtA P t (parts.toList.map fun p=>(p.1,ρ p.2))with
  |some cs=>some ⟨.agg cs,[],[]⟩
  |none=>none
 | .buildSlice t len parts=>match P.underlying t with
  |some (.slice e)=>match P.info? e with
   |some i=>match i.zero with
    |some z=>match cellsA (ofC z)with
     |some zc=>if zc.length=i.size∧0<i.size∧0<len∧len*i.size≤16777216∧newB h nx=true then
       match fillA (fun k=>some (k*i.size,i.size)) ((List.replicate len zc).flatten) (parts.toList.map fun p=>(p.1,ρ p.2))with
       |some cs=>some ⟨.own e i.size nx 0 len,[(nx,.cells e i.size (chunk i.size len cs))],[nx]⟩
       |none=>none
      else none
     |none=>none
    |none=>none
   |none=>none
  |_=>none
 | .load t x=>match ρ x with
  | .ptr sz id i off=>match h id with
   | .cells _ s els=>if s=sz then match els[i]? with
     |some e=>match partA P t e off with
      |some v=>some ⟨v,[],[id]⟩
      |none=>none
     |none=>none
    else none
   |_=>none
  | .lptr _ els i off=>match els[i]? with
   |some e=>match partA P t e off with
    |some v=>some ⟨v,[],[]⟩
    |none=>none
   |none=>none
  |_=>none
 | .store t x y=>match ρ x with
  | .ptr sz id i off=>match h id with
   | .cells T s els=>if s=sz then match els[i]?,cellsA (ρ y)with
     |some e,some xs=>if elemSize P t=some xs.length∧off+xs.length≤sz then some ⟨.undef,[(id,.cells T sz (els.set i (splice e off xs)))],[id]⟩else none
     |_,_=>none
    else none
   |_=>none
  |_=>none
 | .nilCheck x=>match ρ x with
  | .ptr sz id i off=>match h id with
   | .cells _ _ els=>if(els[i]?).isSome then some ⟨.ptr sz id i off,[],[id]⟩else none
   |_=>none
  | .lptr sz els i off=>some ⟨.lptr sz els i off,[],[]⟩
  | .fn (.func k) xs ys=>some ⟨.fn (.func k) xs ys,[],[]⟩
  |_=>none
 | .binOp op t x y _=>match binA P op t (isCst x) (isCst y) (ρ x) (ρ y)with
  |some r=>some ⟨r,[],[]⟩
  |none=>none
 | .unOp op _ x=>match ρ x with
  | .c u=>match unV op u with
   |some r=>some ⟨.c r,[],[]⟩
   |none=>none
  | .e p=>match op with
   | .neg=>if inB (pscale (-1) p)then some ⟨mkE (pscale (-1) p),[],[]⟩else none
   |_=>none
  |_=>none
 | .convert s d x=>match ρ x with
  | .c (.int _ n)=>match P.underlying s,P.underlying d with
   |some _,some (.int k)=>some ⟨.c (.int k (k.wrap n)),[],[]⟩
   |_,_=>none
  | .c (.string b)=>match P.underlying s,P.underlying d with
   |some _,some .string=>some ⟨.c (.string b),[],[]⟩
   |_,_=>none
  | .e p=>match P.underlying s,P.underlying d with
   |some _,some (.int .i64)=>if inB p then some ⟨.e p,[],[]⟩else none
   |_,_=>none
  |_=>none
 | .makeInterface t x=>if P.concrete t then some ⟨.ifc t (ρ x),[],[]⟩else none
 | .makeFunc fn first captured=>some ⟨.fn fn (first.toList.map ρ) (captured.toList.map ρ),[],[]⟩
 | .makeSlice t x y=>match ρ x,ρ y with
  | .c (.int _ l),.c (.int _ c)=>match P.underlying t with
   |some (.slice e)=>match P.info? e with
    |some i=>match i.zero with
     |some z=>match cellsA (ofC z)with
      |some zc=>if zc.length=i.size∧0≤l∧l≤c∧(i.bytes:Int)*c≤281474976710656∧c≤1099511627776∧newB h nx=true then
        some ⟨.own e i.size nx 0 l.toNat,[(nx,.cells e i.size (List.replicate l.toNat zc))],[nx]⟩else none
      |none=>none
     |none=>none
    |none=>none
   |_=>none
  |_,_=>none
 | .slice t x lo hi mx=>match mx with
  |some m=>match lo,hi with
   |none,some hi=>match ρ hi,ρ m with
    | .c (.int _ a),.c (.int _ b)=>match elsA h (ρ x)with
     |some _=>if a=0∧b=0∧isSliceB P t=true∧(P.info? (P.elem t)).isSome=true then some ⟨.emp,[],idOf (ρ x)⟩else none
     |none=>none
    |_,_=>none
   |some lo,some hi=>match ρ x with
    | .own T sz id i n=>match h id with
     | .cells T' s els=>match bndR ρ 0 (some lo),bndR ρ n (some hi),bndR ρ n (some m)with
      |some l,some u,some v=>if T'=T∧s=sz∧els≠[]∧l≤u∧u≤v∧v≤n∧l<v∧isSliceB P t=true∧elemSize P (P.elem t)=some sz then some ⟨.view T sz id (i+l) (u-l),[],[id]⟩else
        if T'=T∧s=sz∧els≠[]∧l=u∧u=v∧v≤n∧isSliceB P t=true∧elemSize P (P.elem t)=some sz then some ⟨.emp,[],[id]⟩else none
      |_,_,_=>none
     |_=>none
    | .lit sz els=>match bndR ρ 0 (some lo),bndR ρ 0 (some hi),bndR ρ 0 (some m)with
     |some l,some u,some v=>if els≠[]∧l≤u∧u≤v∧v≤els.length∧isSliceB P t=true∧elemSize P (P.elem t)=some sz then some ⟨.lit sz ((els.drop l).take (u-l)),[],[]⟩else none
     |_,_,_=>none
    |_=>none
   |_,_=>none
  |none=>match ρ x with
   | .lit sz els=>match bndR ρ 0 lo,bndR ρ els.length hi with
    |some l,some u=>if l≤u∧u≤els.length∧isSliceB P t=true∧elemSize P (P.elem t)=some sz then some ⟨.lit sz ((els.drop l).take (u-l)),[],[]⟩else none
    |_,_=>none
   | .own T sz id i n=>match h id with
    | .cells T' s els=>match bndR ρ 0 lo,bndR ρ n hi with
     |some l,some u=>if T'=T∧s=sz∧els≠[]∧l≤u∧u≤n∧(l=0∨l<n)∧isSliceB P t=true∧elemSize P (P.elem t)=some sz then some ⟨.own T sz id (i+l) (u-l),[],[id]⟩else none
     |_,_=>none
    |_=>none
   | .c (.string s)=>match P.underlying t with
    |some .string=>match bndR ρ 0 lo,bndR ρ s.size hi with
     |some l,some u=>if l≤u∧u≤s.size then some ⟨.c (.string (s.extract l u)),[],[]⟩else none
     |_,_=>none
    |_=>none
   |_=>none
 | .fieldAddr t x k=>match fieldOf P t k with
  |some (_,o',n)=>if n≠0 then match ρ x with
    | .ptr sz id i off=>match h id with
     | .cells _ s els=>if s=sz∧(els[i]?).isSome=true then some ⟨.ptr sz id i (off+o'),[],[id]⟩else none
     |_=>none
    | .lptr sz els i off=>some ⟨.lptr sz els i (off+o'),[],[]⟩
    |_=>none
   else none
  |none=>none
 | .field t x k=>match fieldOf P t k with
  |some (ty,o',_)=>match ρ x with
   | .agg cs=>match partA P ty cs o' with
    |some v=>some ⟨v,[],[]⟩
    |none=>none
   |_=>none
  |none=>none
 | .indexAddr t x ix=>match ρ ix with
  | .c (.int _ n)=>match P.underlying t with
   |some (.slice e)=>match ρ x with
    | .lit sz els=>if elemSize P e=some sz∧0≤n∧n.toNat<els.length then some ⟨.lptr sz els n.toNat 0,[],[]⟩else none
    | .own T sz id i n'=>match h id with
     | .cells T' s els=>if T'=T∧s=sz∧elemSize P e=some sz∧0≤n∧n.toNat<n'∧(els[i+n.toNat]?).isSome=true then some ⟨.ptr sz id (i+n.toNat) 0,[],[id]⟩else none
     |_=>none
    | .view T sz id i n'=>match h id with
     | .cells T' s els=>if T'=T∧s=sz∧elemSize P e=some sz∧0≤n∧n.toNat<n'∧(els[i+n.toNat]?).isSome=true then some ⟨.ptr sz id (i+n.toNat) 0,[],[id]⟩else none
     |_=>none
    | .row N xs=>match xs[n.toNat]? with
     |some p=>if elemSize P e=some 1∧0≤n∧ltB (psub (plit n) N)=some true then some ⟨.lptr 1 [[mkE p]] 0 0,[],[]⟩else none
     |none=>none
    |_=>none
   |some (.array len e)=>match elemSize P e with
    |some s=>if 0≤n∧n.toNat<len then match ρ x with
      | .ptr sz id i off=>match h id with
       | .cells _ s' els=>if s'=sz∧(els[i]?).isSome=true then some ⟨.ptr sz id i (off+n.toNat*s),[],[id]⟩else none
       |_=>none
      | .lptr sz els i off=>some ⟨.lptr sz els i (off+n.toNat*s),[],[]⟩
      |_=>none
     else none
    |none=>none
   |_=>none
  |_=>none
 | .index t x ix=>match ρ ix with
  | .c (.int _ n)=>match P.underlying t with
   |some (.array len e)=>match elemSize P e with
    |some s=>match ρ x with
     | .agg cs=>if 0≤n∧n.toNat<len then match partA P e cs (n.toNat*s)with
       |some v=>some ⟨v,[],[]⟩
       |none=>none
      else none
     |_=>none
    |none=>none
   |some .string=>match ρ x with
    | .c (.string s)=>match s[n.toNat]? with
     |some b=>if 0≤n then some ⟨.c (.int .u8 b.toNat),[],[]⟩else none
     |none=>none
    |_=>none
   |_=>none
  |_=>none
 | .extract x k=>match ρ x with
  | .tup vs=>match vs[k]? with
   |some v=>some ⟨v,[],[]⟩
   |none=>none
  |_=>none
 | .typeAssert x _ asserted ok=>match ρ x with
  | .ifc t v=>match P.underlying asserted,P.info? asserted with
   |some d,some i=>match i.zero with
    |some z=>if concB d=true∧(t=asserted∨ok=true)then
      some ⟨if t=asserted then(if ok then .tup [v,.c (.bool true)]else v)else .tup [ofC z,.c (.bool false)],[],[]⟩else none
    |none=>none
   |_,_=>none
  |_=>none
 | .range t x=>match P.underlying t with
  |some .string=>match ρ x with
   | .c (.string s)=>if newB h nx then some ⟨.ptr 0 nx 0 0,[(nx,.it s 0)],[nx]⟩else none
   |_=>none
  |_=>none
 | .next x str=>if str=true then match ρ x with
  | .ptr 0 id 0 0=>match h id with
   | .it s pos=>if pos<s.size then some ⟨.tup [.c (.bool true),.c (.int .i64 pos),.c (.int .i32 (Utf8.decode s pos).1)],[(id,.it s (pos+(Utf8.decode s pos).2))],[id]⟩else some ⟨.tup [.c (.bool false)],[],[id]⟩
   |_=>none
  |_=>none
  else none
 | .makeMap _ rs=>match rs with
  |none=>if newB h nx then some ⟨.mpv nx,[(nx,.mp [])],[nx]⟩else none
  |_=>none
 | .insert t x k y=>match P.underlying t with
  |some (.map kt _)=>match P.underlying kt with
   |some (.int .i64)=>match ρ x,ρ k with
    | .mpv id,.c (.int .i64 n)=>match h id with
     | .mp es=>if noKey n es=true then some ⟨.undef,[(id,.mp (es++[(n,ρ y)]))],[id]⟩else none
     |_=>none
    |_,_=>none
   |_=>none
  |_=>none
 | .lookup t x k ok=>match P.underlying t with
  |some (.map kt et)=>match P.underlying kt,P.info? et with
   |some (.int .i64),some i=>match i.zero with
    |some z=>match ρ x,ρ k with
     | .mpv id,.c (.int .i64 n)=>match h id with
      | .mp es=>match lookMp n es with
       |some v=>some ⟨if ok then .tup [v,.c (.bool true)]else v,[],[id]⟩
       |none=>if noKey n es=true then some ⟨if ok then .tup [ofC z,.c (.bool false)]else ofC z,[],[id]⟩else none
      |_=>none
     |_,_=>none
    |none=>none
   |_,_=>none
  |_=>none
 | .call { callee:=.builtin b,args,argTypes }=>match b with
  | .len=>match args.toList,argTypes.toList with
   |[x],[t]=>match P.underlying t with
    |some (.slice _)=>match elsA h (ρ x)with
     |some els=>some ⟨.c (.int .i64 els.length),[],idOf (ρ x)⟩
     |none=>match ρ x with
      | .row n _=>some ⟨mkE n,[],[]⟩
      | .view _ _ _ _ n=>some ⟨.c (.int .i64 n),[],[]⟩
      |_=>none
    |some .string=>match ρ x with
     | .c (.string s)=>some ⟨.c (.int .i64 s.size),[],[]⟩
     |_=>none
    |_=>none
   |_,_=>none
  | .append=>match args.toList,argTypes.toList with
   |[x,y],[t,t']=>if t'=t then appendA P t (ρ x) (ρ y) h nx else none
   |_,_=>none
  | .max=>match args.toList with
   |[x,y]=>match ρ x,ρ y with
    | .c (.int k p),.c (.int _ q)=>some ⟨.c (.int k (if q > p then q else p)),[],[]⟩
    |u,v=>match toP u,toP v with
     |some p,some q=>match symMax p q with
      |some r=>some ⟨mkE r,[],[]⟩
      |none=>none
     |_,_=>none
   |[x,y,z]=>match ρ x,ρ y,ρ z with
    | .c (.int k p),.c (.int _ q),.c (.int _ r)=>some ⟨.c (.int k (if r > (if q > p then q else p)then r else(if q > p then q else p))),[],[]⟩
    |_,_,_=>none
   |_=>none
  | .min=>match args.toList with
   |[x,y]=>match ρ x,ρ y with
    | .c (.int k p),.c (.int _ q)=>some ⟨.c (.int k (if q<p then q else p)),[],[]⟩
    |u,v=>match toP u,toP v with
     |some p,some q=>match symMin p q with
      |some r=>some ⟨mkE r,[],[]⟩
      |none=>none
     |_,_=>none
   |_=>none
  | .clear=>match args.toList,argTypes.toList with
   |[x],[t]=>match P.underlying t with
    |some (.slice e)=>match elsA h (ρ x)with
     |some els0=>if els0.length=0 then some ⟨.tup [],[],idOf (ρ x)⟩else
      match P.info? e with
      |some i=>match i.zero with
       |some z=>match cellsA (ofC z)with
        |some zc=>match ρ x with
         | .own T sz id a n=>match h id with
          | .cells T' s els=>if T'=T∧s=sz∧zc.length=sz∧0<n∧a+n≤els.length then some ⟨.tup [],[(id,.cells T sz (splice els a (List.replicate n zc)))],[id]⟩else none
          |_=>none
         |_=>none
        |none=>none
       |none=>none
      |none=>none
     |none=>none
    |_=>none
   |_,_=>none
  |_=>none
 |_=>none
section
variable {P:Program} {o:Oper} {f:List AV} {h:AH}
theorem slice_elem [Bk] [Ev] {t:TypeId} (h:isSliceB P t=true):P.underlying t=some (.slice (P.elem t)):=by
 unfold isSliceB at h
 unfold Program.elem
 split at h
 ·rename_i e he;rw[he]
 ·cases h
theorem arr1 [Bk] [Ev] {α:Type} {l:Array α} {x:α} (h:l.toList=[x]):l=#[x]:=by cases l;simp_all
theorem arr2 [Bk] [Ev] {α:Type} {l:Array α} {x y:α} (h:l.toList=[x,y]):l=#[x,y]:=by cases l;simp_all
theorem arr3 [Bk] [Ev] {α:Type} {l:Array α} {x y z:α} (h:l.toList=[x,y,z]):l=#[x,y,z]:=by cases l;simp_all
set_option maxHeartbeats 4000000 in
theorem aop_ok [Bk] [Ev] {nx:Nat} {r:AR} (hr:aop P o.op (aev f) h nx=some r):OpOk P o f h r:=by
 obtain⟨dst,op,ty,pos,after,guard⟩:=o
 simp only at hr
 cases op with
 |move x=>simp only[aop,Option.some.injEq]at hr;subst hr;exact op_move rfl
 |assign x=>simp only[aop,Option.some.injEq]at hr;subst hr;exact op_assign rfl
 |pick c x y =>
  simp only[aop]at hr
  split at hr
  ·rename_i b hc;cases hr;exact op_pick rfl hc
  ·cases hr
 |alloc e =>
  simp only[aop]at hr
  split at hr
  ·rename_i i hi
   split at hr
   ·rename_i z hz
    split at hr
    ·rename_i cs hc
     split at hr
     ·rename_i hn;cases hr;exact op_alloc rfl hi hz hc (newB_iff hn)
     ·cases hr
    ·cases hr
   ·cases hr
  ·cases hr
 |box e x =>
  simp only[aop]at hr
  split at hr
  ·rename_i cs hc
   split at hr
   ·rename_i hn;cases hr;exact op_box rfl hc (newB_iff hn)
   ·cases hr
  ·cases hr
 |build t parts =>
  simp only[aop]at hr
  split at hr
  ·rename_i cs hc;cases hr;exact op_build rfl hc
  ·cases hr
 |buildSlice t len parts =>
  simp only[aop]at hr
  split at hr
  ·rename_i e he
   split at hr
   ·rename_i i hi
    split at hr
    ·rename_i z hz
     split at hr
     ·rename_i zc hzc
      split at hr
      ·rename_i hcond
       split at hr
       ·rename_i cs hf
        cases hr
        obtain⟨h1,h2,h3,h4,h5⟩:=hcond
        exact op_buildSlice rfl he hi hz hzc h1 h2 h3 h4 hf (newB_iff h5)
       ·cases hr
      ·cases hr
     ·cases hr
    ·cases hr
   ·cases hr
  ·cases hr
 |load t x =>
  simp only[aop]at hr
  split at hr
  ·rename_i sz id i off hx
   split at hr
   ·rename_i T s els hh
    split at hr
    ·rename_i hs
     subst hs
     split at hr
     ·rename_i e he
      split at hr
      ·rename_i v hp
       cases hr
       exact op_load_ptr rfl hx hh he hp
      ·cases hr
     ·cases hr
    ·cases hr
   ·cases hr
  ·rename_i sz els i off hx
   split at hr
   ·rename_i e he
    split at hr
    ·rename_i v hp
     cases hr
     exact op_load_lptr rfl hx he hp
    ·cases hr
   ·cases hr
  ·cases hr
 |store t x y =>
  simp only[aop]at hr
  split at hr
  ·rename_i sz id i off hx
   split at hr
   ·rename_i T s els hh
    split at hr
    ·rename_i hs
     subst hs
     split at hr
     ·rename_i e xs he hy
      split at hr
      ·rename_i hc
       cases hr
       exact op_store rfl hx hh he hy hc.1 hc.2
      ·cases hr
     ·cases hr
    ·cases hr
   ·cases hr
  ·cases hr
 |nilCheck x =>
  simp only[aop]at hr
  split at hr
  ·rename_i sz id i off hx
   split at hr
   ·rename_i T s els hh
    split at hr
    ·rename_i hs
     cases hr
     obtain⟨e,he⟩:=Option.isSome_iff_exists.1 hs
     exact op_nilCheck_ptr rfl hx hh he
    ·cases hr
   ·cases hr
  ·rename_i sz els i off hx;cases hr;exact op_nilCheck_lptr rfl hx
  ·rename_i k xs ys hx;cases hr;exact op_nilCheck_fn rfl hx
  ·cases hr
 |range t x =>
  simp only[aop]at hr
  split at hr
  ·rename_i hu
   split at hr
   ·rename_i s hx
    split at hr
    ·rename_i hn;cases hr;exact op_range rfl hu hx (newB_iff hn)
    ·cases hr
   ·cases hr
  ·cases hr
 |next x str =>
  simp only[aop]at hr
  split at hr
  ·rename_i hs
   subst hs
   split at hr
   ·rename_i id hx
    split at hr
    ·rename_i s pos hh
     split at hr
     ·rename_i hl;cases hr;exact op_next rfl hx hh hl
     ·rename_i hl;cases hr;exact op_next_end rfl hx hh hl
    ·cases hr
   ·cases hr
  ·cases hr
 |makeMap t rs =>
  simp only[aop]at hr
  split at hr
  ·split at hr
   ·rename_i hn;cases hr;exact op_makeMap rfl (newB_iff hn)
   ·cases hr
  ·cases hr
 |insert t x k y =>
  simp only[aop]at hr
  split at hr
  ·rename_i kt et hu
   split at hr
   ·rename_i hk
    split at hr
    ·rename_i id n hx hn
     split at hr
     ·rename_i es hh
      split at hr
      ·rename_i hf;cases hr;exact op_insert rfl hu hk hx hn hh hf
      ·cases hr
     ·cases hr
    ·cases hr
   ·cases hr
  ·cases hr
 |lookup t x k ok =>
  simp only[aop]at hr
  split at hr
  ·rename_i kt et hu
   split at hr
   ·rename_i i hk hi
    split at hr
    ·rename_i z hz
     split at hr
     ·rename_i id n hx hn
      split at hr
      ·rename_i es hh
       split at hr
       ·rename_i v hv;cases hr;exact op_lookup rfl hu hk hx hn hh hv
       ·split at hr
        ·rename_i hf;cases hr;exact op_lookup_no rfl hu hk hi hz hx hn hh hf
        ·cases hr
      ·cases hr
     ·cases hr
    ·cases hr
   ·cases hr
  ·cases hr
 |binOp bop t x y ty' =>
  simp only[aop]at hr
  split at hr
  ·rename_i r' hb;cases hr;exact op_binA rfl hb
  ·cases hr
 |unOp uop t x =>
  simp only[aop]at hr
  split at hr
  ·rename_i u hx
   split at hr
   ·rename_i r' hu;cases hr;exact op_un rfl hx hu
   ·cases hr
  ·rename_i p hx
   split at hr
   ·split at hr
    ·rename_i hb;cases hr;exact op_symNeg rfl hx hb
    ·cases hr
   ·cases hr
  ·cases hr
 |convert s d x =>
  simp only[aop]at hr
  split at hr
  ·rename_i k n hx
   split at hr
   ·rename_i ds k' h1 h2;cases hr;exact op_convert_int rfl hx h1 h2
   ·cases hr
  ·rename_i b hx
   split at hr
   ·rename_i ds h1 h2;cases hr;exact op_convert_str rfl hx h1 h2
   ·cases hr
  ·rename_i p hx
   split at hr
   ·rename_i ds h1 h2
    split at hr
    ·rename_i hb;cases hr;exact op_convert_sym rfl hx h1 h2 hb
    ·cases hr
   ·cases hr
  ·cases hr
 |makeInterface t x =>
  simp only[aop]at hr
  split at hr
  ·rename_i hc;cases hr;exact op_makeInterface rfl hc
  ·cases hr
 |makeFunc fn first captured=>simp only[aop,Option.some.injEq]at hr;subst hr;exact op_makeFunc rfl
 |makeSlice t x y =>
  simp only[aop]at hr
  split at hr
  ·rename_i k l k' c hx hy
   split at hr
   ·rename_i e he
    split at hr
    ·rename_i i hi
     split at hr
     ·rename_i z hz
      split at hr
      ·rename_i zc hzc
       split at hr
       ·rename_i hcond
        cases hr
        obtain⟨h1,h2,h3,h4,h5,h6⟩:=hcond
        exact op_makeSlice rfl he hi hz hzc h1 hx hy h2 h3 h4 h5 (newB_iff h6)
       ·cases hr
      ·cases hr
     ·cases hr
    ·cases hr
   ·cases hr
  ·cases hr
 |slice t x lo hi mx =>
  simp only[aop]at hr
  split at hr
  ·rename_i m
   split at hr
   ·rename_i hi'
    split at hr
    ·rename_i k a k' b h1 h2
     split at hr
     ·rename_i els he
      split at hr
      ·rename_i hc
       obtain⟨rfl,rfl,h3,h4⟩:=hc
       cases hr
       exact op_slice_nil rfl (slice_elem h3) h4 he h1 h2
      ·cases hr
     ·cases hr
    ·cases hr
   ·rename_i lo' hi'
    split at hr
    ·rename_i T sz id i n hx
     split at hr
     ·rename_i T' s els hh
      split at hr
      ·rename_i l u v q1 q2 q3
       split at hr
       ·rename_i hc
        obtain⟨rfl,rfl,h1,h2,h3,h4,h5,h6,h7⟩:=hc
        cases hr
        exact op_slice_view rfl (slice_elem h6) h7 hx hh h1 q1 q2 q3 h2 h3 h4 h5
       ·split at hr
        ·rename_i hc
         obtain⟨rfl,rfl,h1,rfl,rfl,h4,h6,h7⟩:=hc
         cases hr
         exact op_slice_emp3 rfl (slice_elem h6) h7 hx hh h1 q1 q2 q3 h4
        ·cases hr
      ·cases hr
     ·cases hr
    ·rename_i sz els hx
     split at hr
     ·rename_i l u v q1 q2 q3
      split at hr
      ·rename_i hc
       obtain⟨h1,h2,h3,h4,h6,h7⟩:=hc
       cases hr
       exact op_slice_lit3 rfl (slice_elem h6) h7 hx q1 q2 q3 h2 h3 h4 h1
      ·cases hr
     ·cases hr
    ·cases hr
   ·cases hr
  ·split at hr
   ·rename_i sz els hx
    split at hr
    ·rename_i l u h1 h2
     split at hr
     ·rename_i hc
      cases hr
      exact op_slice_lit rfl (slice_elem hc.2.2.1) hc.2.2.2 hx h1 h2 hc.1 hc.2.1
     ·cases hr
    ·cases hr
   ·rename_i T sz id i n hx
    split at hr
    ·rename_i T' s els hh
     split at hr
     ·rename_i l u h1 h2
      split at hr
      ·rename_i hc
       obtain⟨rfl,rfl,h3,h4,h5,h6,h7,h8⟩:=hc
       cases hr
       exact op_slice_own rfl (slice_elem h7) h8 hx hh h3 h1 h2 h4 h5 h6
      ·cases hr
     ·cases hr
    ·cases hr
   ·rename_i s hx
    split at hr
    ·rename_i hu
     split at hr
     ·rename_i l u h1 h2
      split at hr
      ·rename_i hc
       cases hr
       exact op_slice_str rfl hu hx h1 h2 hc.1 hc.2
      ·cases hr
     ·cases hr
    ·cases hr
   ·cases hr
 |fieldAddr t x k =>
  simp only[aop]at hr
  split at hr
  ·rename_i ty' o' n hf
   split at hr
   ·rename_i hn
    split at hr
    ·rename_i sz id i off hx
     split at hr
     ·rename_i T s els hh
      split at hr
      ·rename_i hc
       obtain⟨rfl,hs⟩:=hc
       obtain⟨e,he⟩:=Option.isSome_iff_exists.1 hs
       cases hr
       exact op_fieldAddr_ptr rfl hx hh he hf hn
      ·cases hr
     ·cases hr
    ·rename_i sz els i off hx
     cases hr
     exact op_fieldAddr_lptr rfl hx hf hn
    ·cases hr
   ·cases hr
  ·cases hr
 |field t x k =>
  simp only[aop]at hr
  split at hr
  ·rename_i ty' o' n hf
   split at hr
   ·rename_i cs hx
    split at hr
    ·rename_i v hp
     cases hr
     exact op_field rfl hx hf hp
    ·cases hr
   ·cases hr
  ·cases hr
 |indexAddr t x ix =>
  simp only[aop]at hr
  split at hr
  ·rename_i k n hi
   split at hr
   ·rename_i e hu
    split at hr
    ·rename_i sz els hx
     split at hr
     ·rename_i hc
      cases hr
      exact op_indexAddr_lit rfl hx hi hu hc.1 hc.2.1 hc.2.2
     ·cases hr
    ·rename_i T sz id i n' hx
     split at hr
     ·rename_i T' s els hh
      split at hr
      ·rename_i hc
       obtain⟨rfl,rfl,h1,h2,h3,h4⟩:=hc
       obtain⟨el,he⟩:=Option.isSome_iff_exists.1 h4
       cases hr
       exact op_indexAddr_own rfl hx hh hi hu h1 h2 h3 he
      ·cases hr
     ·cases hr
    ·rename_i T sz id i n' hx
     split at hr
     ·rename_i T' s els hh
      split at hr
      ·rename_i hc
       obtain⟨rfl,rfl,h1,h2,h3,h4⟩:=hc
       obtain⟨el,he⟩:=Option.isSome_iff_exists.1 h4
       cases hr
       exact op_indexAddr_view rfl hx hh hi hu h1 h2 h3 he
      ·cases hr
     ·cases hr
    ·rename_i N xs hx
     split at hr
     ·rename_i p hp
      split at hr
      ·rename_i hc
       cases hr
       exact op_indexAddr_row rfl hx hi hu hc.1 hc.2.1 hc.2.2 hp
      ·cases hr
     ·cases hr
    ·cases hr
   ·rename_i len e hu
    split at hr
    ·rename_i s hs
     split at hr
     ·rename_i hc
      split at hr
      ·rename_i sz id i off hx
       split at hr
       ·rename_i T s' els hh
        split at hr
        ·rename_i hc2
         obtain⟨rfl,h4⟩:=hc2
         obtain⟨el,he⟩:=Option.isSome_iff_exists.1 h4
         cases hr
         exact op_indexAddr_arr rfl hx hh he hi hu hs hc.1 hc.2
        ·cases hr
       ·cases hr
      ·rename_i sz els i off hx
       cases hr
       exact op_indexAddr_larr rfl hx hi hu hs hc.1 hc.2
      ·cases hr
     ·cases hr
    ·cases hr
   ·cases hr
  ·cases hr
 |index t x ix =>
  simp only[aop]at hr
  split at hr
  ·rename_i k n hi
   split at hr
   ·rename_i len e hu
    split at hr
    ·rename_i s hs
     split at hr
     ·rename_i cs hx
      split at hr
      ·rename_i hc
       split at hr
       ·rename_i v hp
        cases hr
        exact op_index_arr rfl hx hi hu hs hc.1 hc.2 hp
       ·cases hr
      ·cases hr
     ·cases hr
    ·cases hr
   ·rename_i hu
    split at hr
    ·rename_i s hx
     split at hr
     ·rename_i b hb
      split at hr
      ·rename_i h0
       cases hr
       exact op_index_str rfl hx hi hu h0 hb
      ·cases hr
     ·cases hr
    ·cases hr
   ·cases hr
  ·cases hr
 |extract x k =>
  simp only[aop]at hr
  split at hr
  ·rename_i vs hx
   split at hr
   ·rename_i v hv
    cases hr
    exact op_extract rfl hx hv
   ·cases hr
  ·cases hr
 |typeAssert x xt asserted ok =>
  simp only[aop]at hr
  split at hr
  ·rename_i t v hx
   split at hr
   ·rename_i d i h1 h2
    split at hr
    ·rename_i z hz
     split at hr
     ·rename_i hc
      cases hr
      exact op_typeAssert rfl hx h1 hc.1 h2 hz hc.2
     ·cases hr
    ·cases hr
   ·cases hr
  ·cases hr
 |call c =>
  obtain⟨callee,args,argTypes⟩:=c
  cases callee with
  |builtin b =>
   simp only[aop]at hr
   split at hr
   ·split at hr
    ·rename_i x t ha ht
     rw[arr1 ha,arr1 ht]
     split at hr
     ·rename_i e hu
      split at hr
      ·rename_i els he;cases hr;exact op_len rfl hu he
      ·split at hr
       ·rename_i n xs hx;cases hr;exact op_len_row rfl hu hx
       ·rename_i hx;cases hr;exact op_len_view rfl hu hx
       ·cases hr
     ·rename_i hu
      split at hr
      ·rename_i s hx;cases hr;exact op_len_str rfl hu hx
      ·cases hr
     ·cases hr
    ·cases hr
   ·split at hr
    ·rename_i x y t t' ha ht
     rw[arr2 ha,arr2 ht]
     split at hr
     ·rename_i e
      subst e
      unfold appendA at hr
      split at hr
      ·rename_i e he
       split at hr
       ·rename_i i hi
        split at hr
        ·rename_i z hz
         split at hr
         ·rename_i els k rd ys hb hy
          split at hr
          ·rename_i hc
           obtain⟨h1,h2,h3,h4,h5,h6,h7⟩:=hc
           cases hr
           refine op_append rfl he hi hz h1 h2 hb hy (fun q hq=>by simpa using List.all_eq_true.1 h3 q hq) ?_ h5 h6 (newB_iff h7)
           intro T s id j n hy'
           rw[hy']at h4
           simpa[ownSz]using h4
          ·cases hr
         ·cases hr
        ·cases hr
       ·cases hr
      ·cases hr
     ·cases hr
    ·cases hr
   ·split at hr
    ·rename_i x y ha
     rw[arr2 ha]
     split at hr
     ·rename_i k p k' q hx hy;cases hr;exact op_max2 rfl hx hy
     ·split at hr
      ·rename_i p q hp hq
       split at hr
       ·rename_i r' hs;cases hr;exact op_symMax2 rfl hp hq hs
       ·cases hr
      ·cases hr
    ·rename_i x y z ha
     rw[arr3 ha]
     split at hr
     ·rename_i k p k' q k'' r' hx hy hz;cases hr;exact op_max3 rfl hx hy hz
     ·cases hr
    ·cases hr
   ·split at hr
    ·rename_i x y ha
     rw[arr2 ha]
     split at hr
     ·rename_i k p k' q hx hy;cases hr;exact op_min2 rfl hx hy
     ·split at hr
      ·rename_i p q hp hq
       split at hr
       ·rename_i r' hs;cases hr;exact op_symMin2 rfl hp hq hs
       ·cases hr
      ·cases hr
    ·cases hr
   ·split at hr
    ·rename_i x t ha ht
     rw[arr1 ha,arr1 ht]
     split at hr
     ·rename_i e hu
      split at hr
      ·rename_i els0 he
       split at hr
       ·rename_i h0;cases hr;exact op_clear0 rfl hu he h0
       ·split at hr
        ·rename_i ti hi
         split at hr
         ·rename_i z hz
          split at hr
          ·rename_i zc hc
           split at hr
           ·rename_i T sz id a n hx
            split at hr
            ·rename_i T' s els hh
             split at hr
             ·rename_i hcond
              obtain⟨rfl,rfl,c1,c2,c3⟩:=hcond
              cases hr
              exact op_clear rfl hu hi hz hc c1 hx hh c2 c3
             ·cases hr
            ·cases hr
           ·cases hr
          ·cases hr
         ·cases hr
        ·cases hr
      ·cases hr
     ·cases hr
    ·cases hr
   ·cases hr
  |_=>simp[aop]at hr
 |_=>simp[aop]at hr
end
end Go.Proofs.Ytjccjmmbebiegaa.Mc
set_option linter.unusedVariables false
set_option linter.unusedSimpArgs false
namespace Go.Proofs.Ytjccjmmbebiegaa.Mc
open Go.RowKit
section
variable {P:Program}
theorem bndA_f [Bk] [Ev] {ρ ρ':Operand→AV} {d:Nat} {x:Option Operand} (h:∀y,x=some y→ρ' y=ρ y):bndR ρ' d x=bndR ρ d x:=by
 cases x with
 |none=>rfl
 |some y=>simp only[bndR,h y rfl]
theorem aop_f [Bk] [Ev] {op:Op} {ρ ρ':Operand→AV} {h:AH} {nx:Nat} (ha:∀x∈op.operands.toList,ρ' x=ρ x):aop P op ρ' h nx=aop P op ρ h nx:=by
 cases op with
 |build t parts =>
  have:(parts.toList.map fun p=>(p.1,ρ' p.2))=parts.toList.map fun p=>(p.1,ρ p.2):=List.map_congr_left fun p hp=>by
   rw[ha p.2 (by simp[Op.operands];exact⟨p.1,by simpa using hp⟩)]
  simp only[aop,this]
 |buildSlice t len parts =>
  have:(parts.toList.map fun p=>(p.1,ρ' p.2))=parts.toList.map fun p=>(p.1,ρ p.2):=List.map_congr_left fun p hp=>by
   rw[ha p.2 (by simp[Op.operands];exact⟨p.1,by simpa using hp⟩)]
  simp only[aop,this]
 |makeFunc fn first captured =>
  have e1:first.toList.map ρ'=first.toList.map ρ:=List.map_congr_left fun p hp=>ha p (by simp[Op.operands];exact .inl (by simpa using hp))
  have e2:captured.toList.map ρ'=captured.toList.map ρ:=List.map_congr_left fun p hp=>ha p (by simp[Op.operands];exact .inr (by simpa using hp))
  simp only[aop,e1,e2]
 |slice t x lo hi mx =>
  have hx:=ha x (by simp[Op.operands])
  have e1:∀d,bndR ρ' d lo=bndR ρ d lo:=fun d=>bndA_f fun y hy=>ha y (by subst hy;simp[Op.operands])
  have e2:∀d,bndR ρ' d hi=bndR ρ d hi:=fun d=>bndA_f fun y hy=>ha y (by subst hy;simp[Op.operands])
  have e3:∀y,hi=some y→ρ' y=ρ y:=fun y hy=>ha y (by subst hy;simp[Op.operands])
  have e4:∀y,mx=some y→ρ' y=ρ y:=fun y hy=>ha y (by subst hy;simp[Op.operands])
  simp only[aop,hx,e1,e2]
  cases mx with
  |none=>rfl
  |some m =>
   cases lo with
   |some l =>
    cases hi with
    |none=>rfl
    |some k =>
     have q1:=e1 0
     have q2:∀n,bndR ρ' n (some k)=bndR ρ n (some k):=fun n=>e2 n
     have q3:∀n,bndR ρ' n (some m)=bndR ρ n (some m):=fun n=>bndA_f fun y hy=>e4 y hy
     simp only[q1,q2,q3]
   |none =>
    cases hi with
    |none=>rfl
    |some k=>simp only[e3 k rfl,e4 m rfl]
 |call c =>
  obtain⟨callee,args,argTypes⟩:=c
  cases callee with
  |builtin b =>
   have e:∀x∈args.toList,ρ' x=ρ x:=fun x hx=>ha x (by simp[Op.operands,Call.operands];simpa using hx)
   cases b<;>simp only[aop]
   all_goals (rcases hargs:args.toList with _|⟨x,_|⟨y,_|⟨z,_|⟨u,r⟩⟩⟩⟩<;>rw[hargs]at e<;>simp only[List.mem_cons,List.not_mem_nil,or_false,forall_eq_or_imp,forall_eq,implies_true,false_implies]at e<;>(try simp only[e])<;>(rcases argTypes.toList with _|⟨t1,_|⟨t2,_|⟨t3,q⟩⟩⟩<;>(try simp only[e])))
  |_=>simp[aop]
 |pick c x y =>
  have h1:=ha c (by simp[Op.operands]);have h2:=ha x (by simp[Op.operands]);have h3:=ha y (by simp[Op.operands])
  simp only[aop,h1,h2,h3]
 |store t x y =>
  have h1:=ha x (by simp[Op.operands]);have h2:=ha y (by simp[Op.operands])
  simp only[aop,h1,h2]
 |binOp bop t x y ty =>
  have h1:=ha x (by simp[Op.operands]);have h2:=ha y (by simp[Op.operands])
  simp only[aop,h1,h2]
 |makeSlice t x y =>
  have h1:=ha x (by simp[Op.operands]);have h2:=ha y (by simp[Op.operands])
  simp only[aop,h1,h2]
 |range t x=>have h1:=ha x (by simp[Op.operands]);simp only[aop,h1]
 |next x str=>have h1:=ha x (by simp[Op.operands]);simp only[aop,h1]
 |insert t x k y =>
  have h1:=ha x (by simp[Op.operands]);have h2:=ha k (by simp[Op.operands]);have h3:=ha y (by simp[Op.operands])
  simp only[aop,h1,h2,h3]
 |lookup t x k ok =>
  have h1:=ha x (by simp[Op.operands]);have h2:=ha k (by simp[Op.operands])
  simp only[aop,h1,h2]
 |indexAddr t x y =>
  have h1:=ha x (by simp[Op.operands]);have h2:=ha y (by simp[Op.operands])
  simp only[aop,h1,h2]
 |index t x y =>
  have h1:=ha x (by simp[Op.operands]);have h2:=ha y (by simp[Op.operands])
  simp only[aop,h1,h2]
 |move x=>have h1:=ha x (by simp[Op.operands]);simp only[aop,h1]
 |assign x=>have h1:=ha x (by simp[Op.operands]);simp only[aop,h1]
 |box e x=>have h1:=ha x (by simp[Op.operands]);simp only[aop,h1]
 |load t x=>have h1:=ha x (by simp[Op.operands]);simp only[aop,h1]
 |nilCheck x=>have h1:=ha x (by simp[Op.operands]);simp only[aop,h1]
 |unOp u t x=>have h1:=ha x (by simp[Op.operands]);simp only[aop,h1]
 |convert s d x=>have h1:=ha x (by simp[Op.operands]);simp only[aop,h1]
 |makeInterface t x=>have h1:=ha x (by simp[Op.operands]);simp only[aop,h1]
 |fieldAddr t x k=>have h1:=ha x (by simp[Op.operands]);simp only[aop,h1]
 |field t x k=>have h1:=ha x (by simp[Op.operands]);simp only[aop,h1]
 |extract x k=>have h1:=ha x (by simp[Op.operands]);simp only[aop,h1]
 |typeAssert x t a ok=>have h1:=ha x (by simp[Op.operands]);simp only[aop,h1]
 |_=>simp[aop]
theorem newB_h [Bk] [Ev] {h h':AH} {nx:Nat} (e:h' nx=h nx):newB h' nx=newB h nx:=by unfold newB;rw[e]
theorem elsA_h [Bk] [Ev] {h h':AH} {x:AV} (e:∀id∈idOf x,h' id=h id):elsA h' x=elsA h x:=by
 cases x<;>simp only[elsA]
 rename_i T s id i n
 rw[e id (by simp[idOf])]
theorem baseA_h [Bk] [Ev] {h h':AH} {e sz:Nat} {x:AV} (hh:∀id∈idOf x,h' id=h id):baseA h' e sz x=baseA h e sz x:=by
 cases x<;>simp only[baseA]
 rename_i T s id i n
 cases i<;>simp only[baseA]
 rw[hh id (by simp[idOf])]
theorem baseA_rd [Bk] [Ev] {h:AH} {e sz:Nat} {x:AV} {els:List (List AV)} {k:List (Nat×Blk)} {rd:List Nat} (hb:baseA h e sz x=some (els,k,rd)):rd=idOf x∧k.map (·.1)=idOf x:=by
 unfold baseA at hb
 split at hb
 ·simp only[Option.some.injEq,Prod.mk.injEq]at hb
  obtain⟨rfl,rfl,rfl⟩:=hb
  exact⟨rfl,rfl⟩
 ·split at hb
  ·split at hb
   ·simp only[Option.some.injEq,Prod.mk.injEq]at hb
    obtain⟨rfl,rfl,rfl⟩:=hb
    exact⟨rfl,rfl⟩
   ·cases hb
  ·cases hb
 ·cases hb
theorem appendA_h [Bk] [Ev] {t:TypeId} {x y:AV} {h h':AH} {nx:Nat} {r:AR} (hr:appendA P t x y h nx=some r) (hag:∀id∈r.rds,h' id=h id):appendA P t x y h' nx=some r:=by
 have key:∀(e sz:Nat) els k rd ys,baseA h e sz x=some (els,k,rd)→(∀id∈nx::rd++idOf y,h' id=h id)→elsA h y=some ys→baseA h' e sz x=baseA h e sz x∧elsA h' y=elsA h y∧newB h' nx=newB h nx:=by
  intro e sz els k rd ys hb hag hy
  have h1:=(baseA_rd hb).1
  subst h1
  exact⟨baseA_h fun id hid=>hag id (by simp[hid]),elsA_h fun id hid=>hag id (by simp[hid]),newB_h (hag nx (by simp))⟩
 unfold appendA at hr ⊢
 split at hr
 ·rename_i e he
  split at hr
  ·rename_i i hi
   split at hr
   ·rename_i z hz
    split at hr
    ·rename_i els k rd ys hb hy
     split at hr
     ·rename_i hc
      cases hr
      obtain⟨q1,q2,q3⟩:=key e i.size els k rd ys hb hag hy
      simp only[hi,hz,q1,q2,q3,hb,hy]
      rw[if_pos hc]
     ·cases hr
    ·cases hr
   ·cases hr
  ·cases hr
 ·cases hr
set_option maxHeartbeats 4000000 in
theorem aop_h [Bk] [Ev] {op:Op} {ρ:Operand→AV} {h h':AH} {nx:Nat} {r:AR} (hr:aop P op ρ h nx=some r) (hag:∀id∈r.rds,h' id=h id):aop P op ρ h' nx=some r:=by
 have one:∀{id:Nat},(∀id'∈[id],h' id'=h id')→h' id=h id:=fun k=>k _ (by simp)
 cases op with
 |alloc e =>
  simp only[aop]at hr ⊢
  repeat' split at hr
  all_goals (first|cases hr|skip)
  have e0:=newB_h (one hag)
  simp_all
 |box e x =>
  simp only[aop]at hr ⊢
  repeat' split at hr
  all_goals (first|cases hr|skip)
  have e0:=newB_h (one hag)
  simp_all
 |buildSlice t len parts =>
  simp only[aop]at hr ⊢
  repeat' split at hr
  all_goals (first|cases hr|skip)
  have e0:=newB_h (one hag)
  simp_all
 |makeSlice t x y =>
  simp only[aop]at hr ⊢
  repeat' split at hr
  all_goals (first|cases hr|skip)
  have e0:=newB_h (one hag)
  simp_all
 |range t x =>
  simp only[aop]at hr ⊢
  repeat' split at hr
  all_goals (first|cases hr|skip)
  have e0:=newB_h (one hag)
  simp_all
 |makeMap t rs =>
  simp only[aop]at hr ⊢
  repeat' split at hr
  all_goals (first|cases hr|skip)
  have e0:=newB_h (one hag)
  simp_all
 |next x str =>
  simp only[aop]at hr ⊢
  repeat' split at hr
  all_goals (first|cases hr|skip)
  all_goals (have e0:=one hag;simp_all)
 |insert t x k y =>
  simp only[aop]at hr ⊢
  repeat' split at hr
  all_goals (first|cases hr|skip)
  have e0:=one hag;simp_all
 |lookup t x k ok =>
  simp only[aop]at hr ⊢
  repeat' split at hr
  all_goals (first|cases hr|skip)
  all_goals (have e0:=one hag;simp_all)
 |load t x =>
  simp only[aop]at hr ⊢
  repeat' split at hr
  all_goals (first|cases hr|skip)
  ·have e0:=one hag;simp_all
  ·simp_all
 |store t x y =>
  simp only[aop]at hr ⊢
  repeat' split at hr
  all_goals (first|cases hr|skip)
  have e0:=one hag
  simp_all
 |nilCheck x =>
  simp only[aop]at hr ⊢
  repeat' split at hr
  all_goals (first|cases hr|skip)
  ·have e0:=one hag;simp_all
  all_goals simp_all
 |fieldAddr t x k =>
  simp only[aop]at hr ⊢
  repeat' split at hr
  all_goals (first|cases hr|skip)
  ·have e0:=one hag;simp_all
  all_goals simp_all
 |indexAddr t x ix =>
  simp only[aop]at hr ⊢
  repeat' split at hr
  all_goals (first|cases hr|skip)
  ·simp_all
  ·have e0:=one hag;simp_all
  ·have e0:=one hag;simp_all
  ·simp_all
  ·have e0:=one hag;simp_all
  ·simp_all
 |slice t x lo hi mx =>
  simp only[aop]at hr ⊢
  split at hr
  ·repeat' split at hr
   all_goals (first|cases hr|skip)
   ·have e0:=elsA_h (x:=ρ x) hag
    simp_all
   ·have e0:=one hag
    simp_all
   ·have e0:=one hag
    simp_all
   ·simp_all
  ·repeat' split at hr
   all_goals (first|cases hr|skip)
   ·simp_all
   ·have e0:=one hag;simp_all
   ·simp_all
 |call c =>
  obtain⟨callee,args,argTypes⟩:=c
  cases callee with
  |builtin b =>
   cases b with
   |append =>
    simp only[aop]at hr ⊢
    split at hr
    ·split at hr
     ·rename_i x y t t' h1 h2 e
      first|(rw[if_pos e];exact appendA_h hr hag)|(rw[h1,h2];simp only;rw[if_pos e];exact appendA_h hr hag)
     ·cases hr
    ·cases hr
   |len =>
    simp only[aop]at hr ⊢
    repeat' split at hr
    all_goals (first|cases hr|skip)
    ·rename_i x t h1 h2 _ e hu _ els he
     have e0:=elsA_h (x:=ρ x) hag
     simp_all
    ·simp_all [elsA]
    ·simp_all [elsA]
    ·simp_all
   |max=>exact hr
   |min=>exact hr
   |clear =>
    simp only[aop]at hr ⊢
    repeat' split at hr
    all_goals (first|cases hr|skip)
    ·rename_i x t h1 h2 _ e hu _ els he _
     have e0:=elsA_h (x:=ρ x) hag
     simp_all
    ·have e0:=one hag
     simp_all [elsA]
   |_=>simp[aop]at hr
  |_=>simp[aop]at hr
 |_=>exact hr
theorem aop_ups [Bk] [Ev] {op:Op} {ρ:Operand→AV} {h:AH} {nx:Nat} {r:AR} (hr:aop P op ρ h nx=some r):∀id∈r.ups.map (·.1),id∈r.rds:=by
 cases op with
 |call c =>
  obtain⟨callee,args,argTypes⟩:=c
  cases callee with
  |builtin b =>
   cases b with
   |append =>
    simp only[aop]at hr
    split at hr
    ·split at hr
     ·unfold appendA at hr
      repeat' split at hr
      all_goals (first|cases hr|skip)
      rename_i hb _ _
      obtain⟨q1,q2⟩:=baseA_rd hb
      intro id hid
      simp only[List.map_append,List.mem_append,q2,List.map_cons,List.map_nil,List.mem_singleton]at hid
      rcases hid with h|h
      ·simp[q1,h]
      ·simp[h]
     ·cases hr
    ·cases hr
   |_ =>
    simp only[aop]at hr
    try (repeat' split at hr)
    all_goals (first|cases hr|skip)
    all_goals simp
  |_=>simp[aop]at hr
 |_ =>
  simp only[aop]at hr
  try (repeat' split at hr)
  all_goals (first|cases hr|skip)
  all_goals simp
end
end Go.Proofs.Ytjccjmmbebiegaa.Mc
