/-
 Loops by segments, short: from head to head, own lists too, each segment said by names, heads by closed data.
-/
import Derived.Test.YtjccjmmbebiegaaZ
set_option linter.unusedVariables false
set_option linter.unusedSimpArgs false
namespace Go.Proofs.Ytjccjmmbebiegaa.Mc
open Go.RowKit
section
variable {b1:Bk} {e1:@Ev b1} {b2:Bk} {e2:@Ev b2} {ids:Ids}
theorem Slot.sown_own {T sz id id':Nat} {n:Poly} {k:Nat} (h:ids[id']?=some (some id)) (hn:k=(pev (@Ev.rho b1 e1) n).toNat):Slot b1 e1 b2 e2 ids (.sown T sz id n) (.own T sz id' 0 k):=by
 intro m A w v hr
 have hm:=mOf_some (m:=m) h
 cases hr with
 |pure _ _ h=>cases h
 |sown _ _ _ _ b len cap hm' hb hl hn' hc hr =>
  have:k=len:=by rw[hn,hl];rfl
  subst this
  have:=@Rd.own b2 e2 _ A w T sz id' 0 k b cap (hm.trans hm') hb hn' hc (by rw[Nat.zero_add];exact hr)
  rwa[Nat.zero_mul]at this
 |sownv _ _ _ _ a hm' h0 =>
  have:k=0:=by rw[hn,h0];rfl
  subst this
  exact @Rd.ownv b2 e2 _ A w T sz id' 0 a (hm.trans hm')
 |sownd _ _ _ _ a n0 cap hm'=>exact @Rd.ownd b2 e2 _ A w T sz id' 0 k a n0 cap (hm.trans hm')
theorem Slot.emp_lit {k:Nat}:Slot b1 e1 b2 e2 ids .emp (.lit k []):=by
 intro m A w v hr
 cases hr with
 |pure _ _ hr=>cases hr with|emp a=>exact .pure _ _ (.lit0 k a 0 (Nat.zero_le _))
theorem Slot.emp_own {T sz id':Nat} (h:ids[id']?=some none):Slot b1 e1 b2 e2 ids .emp (.own T sz id' 0 0):=by
 intro m A w v hr
 have hm:=mOf_none (m:=m) h
 cases hr with
 |pure _ _ hr=>cases hr with|emp a=>exact @Rd.ownv b2 e2 _ A w T sz id' 0 a hm
end
def denF [Bk] [Ev] (x:AV):AV:=match x with
 | .sown T sz id n=>.own T sz id 0 (evP Ev.rho n).toNat
 | .own T sz id i n=>.own T sz id i n
 | .ptr sz id i off=>.ptr sz id i off
 | .junk=>.junk
 |x=>den 12 x
def denG [Bk] [Ev] (B:Blk):Blk:=match B with
 | .cells T sz els=>.cells T sz (els.map (·.map denF))
 | .sc T sz base ups tail _=>.cells T sz (appT ((ups.map fun q=>(q.1,q.2.map denF)).foldl (fun l q=>l.set (evP Ev.rho q.1).toNat q.2) (Ev.seq base)) (tail.map (·.map denF)))
 |B=>B
def sO (n:Nat) (x:AV):Bool:=match x with
 | .ptr _ id _ _=>decide (id<n)
 | .sown _ _ id _=>decide (id<n)
 | .own _ _ id _ _=>decide (id<n)
 | .junk=>true
 |x=>namB 12 x
def sI (b:Bk) (n:Nat) (x:AV):Bool:=match x with
 | .ptr _ id _ _=>decide (id<n)
 | .sown _ _ id p=>decide (id<n)&&b.lens.any fun t=>t.2==p
 | .own _ _ id _ _=>decide (id<n)
 | .junk=>true
 |x=>namB 12 x&&noUps 12 x
def bO (n:Nat) (B:Blk):Bool:=match B with
 | .cells _ _ els=>els.all (·.all (sO n))
 | .sc _ _ _ ups tail _=>ups.all (fun q=>q.2.all (sO n))&&tail.all (·.all (sO n))
 |_=>false
def bI (b:Bk) (n:Nat) (B:Blk):Bool:=match B with
 | .cells _ _ els=>els.all (·.all (sI b n))
 | .sc _ _ base ups tail p=>(ups.all fun q=>q.2.all (sI b n)&&b.ats.any fun t=>t.1==base&&t.2.1==q.1)&&tail.isEmpty&&b.lens.any fun t=>t.1==base&&t.2==p
 |_=>false
theorem denF_one [Bk] [Ev] (x:AV):(denF x).one=x.one:=by
 cases x<;>first|rfl|exact den_one 12 _
theorem denF_cl [Bk] [Ev] {x:AV} (h:Cl x):denF x=x:=by
 cases x<;>first|rfl|exact h.den 12|(cases h;done)
theorem rows_denF [Bk] [Ev] (base:Nat) (ups:List (Poly×List AV)) (tail:List (List AV)):appT ((ups.map fun q=>(q.1,q.2.map denF)).foldl (fun l q=>l.set (evP Ev.rho q.1).toNat q.2) (Ev.seq base)) (tail.map (·.map denF))=(rowsOf base ups tail).map (·.map denF):=by
 have hb:(Ev.seq base).map (·.map denF)=Ev.seq base:=by
  conv=>rhs;rw[←List.map_id (Ev.seq base)]
  refine List.map_congr_left fun e he=>?_
  show e.map denF=id e
  conv=>rhs;rw[id,←List.map_id e]
  exact List.map_congr_left fun x hx=>denF_cl (Ev.seq_cl base e he x hx)
 have hf:∀(ups:List (Poly×List AV)) (l:List (List AV)),(ups.map fun q=>(q.1,q.2.map denF)).foldl (fun l q=>l.set (evP Ev.rho q.1).toNat q.2) (l.map (·.map denF))=(ups.foldl (fun l q=>l.set (pev Ev.rho q.1).toNat q.2) l).map (·.map denF):=by
  intro ups
  induction ups with
  |nil=>intro l;rfl
  |cons q ups ih =>
   intro l
   simp only[List.map_cons,List.foldl_cons]
   rw[←ih,List.map_set,evP_eq]
 rw[appT_eq]
 unfold rowsOf
 rw[List.map_append,←hf,hb]
section
variable {b:Bk} {ev:@Ev b} {n:Nat}
theorem sO_ok {x:AV} (h:sO n x=true):Slot b ev bk0 ev0 (idl n) x (@denF b ev x):=by
 have data:namB 12 x=true→Slot b ev bk0 ev0 (idl n) x (@den b ev 12 x):=fun h=>by
  have hc:=@den_cl b ev 12 x h
  exact Slot.data rfl (hc.den 12) hc (cl_noUps 12 _ hc)
 cases x with
 |ptr sz id i off=>exact Slot.ptr (idl_get (of_decide_eq_true h))
 |own T sz id i k=>exact Slot.own (idl_get (of_decide_eq_true h))
 |sown T sz id p=>exact Slot.sown_own (idl_get (of_decide_eq_true h)) (by rw[evP_eq])
 |junk=>exact Slot.junk
 |_=>exact data h
theorem sI_ok {x:AV} (h:sI b n x=true):Slot bk0 ev0 b ev (idl n) (@denF b ev x) x:=by
 have data:(namB 12 x&&noUps 12 x)=true→Slot bk0 ev0 b ev (idl n) (@den b ev 12 x) x:=fun h=>by
  rw[Bool.and_eq_true]at h
  have hc:=@den_cl b ev 12 x h.1
  exact Slot.data (hc.den 12) rfl hc h.2
 cases x with
 |ptr sz id i off=>exact Slot.ptr (idl_get (of_decide_eq_true h))
 |own T sz id i k=>exact Slot.own (idl_get (of_decide_eq_true h))
 |sown T sz id p =>
  simp only[sI,Bool.and_eq_true]at h
  obtain⟨t,ht,hp⟩:=List.any_eq_true.1 h.2
  have hp:t.2=p:=eq_of_beq hp
  have:=@Ev.slen b ev t ht
  rw[hp]at this
  refine Slot.own_sown (idl_get (of_decide_eq_true h.1)) ?_
  rw[evP_eq]
  show((pev (@Ev.rho b ev) p).toNat:Int)=pev (@Ev.rho b ev) p
  have:pev (@Ev.rho b ev) p=(((@Ev.seqs b ev).getD t.1 []).length:Int):=this.symm
  omega
 |junk=>exact Slot.junk
 |_=>exact data h
theorem sOs_ok:∀{l:List AV},l.all (sO n)=true→SlotL b ev bk0 ev0 (idl n) l (l.map (@denF b ev))
 |[],_=>.nil
 |x::l,h=>by
  rw[List.all_cons,Bool.and_eq_true]at h
  exact .cons (sO_ok h.1) (sOs_ok h.2)
theorem sIs_ok:∀{l:List AV},l.all (sI b n)=true→SlotL bk0 ev0 b ev (idl n) (l.map (@denF b ev)) l
 |[],_=>.nil
 |x::l,h=>by
  rw[List.all_cons,Bool.and_eq_true]at h
  exact .cons (sI_ok h.1) (sIs_ok h.2)
theorem at2_denF [Bk] [Ev] {els:List (List AV)} {i j:Nat} {y:AV} (h:at2 (els.map (·.map denF)) i j=some y):∃x,at2 els i j=some x∧y=denF x:=by
 rw[at2_map]at h
 obtain⟨x,hx,rfl⟩:=Option.map_eq_some_iff.1 h
 exact⟨x,hx,rfl⟩
theorem bO_ok {h1:AH} {i:Nat} {B:Blk} (hi:h1 i=B) (h:bO n B=true):BlkS b ev bk0 ev0 (idl n) h1 (some i) (@denG b ev B):=by
 cases B with
 |cells T sz els =>
  refine⟨trivial,T,sz,els,els.map (·.map (@denF b ev)),by rw[hi];rfl,rfl,by simp,?_,?_⟩
  ·intro i j y hy
   obtain⟨x,hx,rfl⟩:=@at2_denF b ev _ _ _ _ hy
   obtain⟨r,hr,hxr⟩:=at2_mem hx
   exact⟨x,hx,(@denF_one b ev x).symm,sO_ok (List.all_eq_true.1 (List.all_eq_true.1 h r hr) x hxr)⟩
  ·intro h e he
   obtain⟨r,hr,rfl⟩:=List.mem_map.1 he
   rw[List.length_map];exact h r hr
 |sc T sz base ups tail p =>
  have hr:=@rows_denF b ev base ups tail
  refine⟨trivial,T,sz,@rowsOf b ev base ups tail,(@rowsOf b ev base ups tail).map (·.map (@denF b ev)),by rw[hi];rfl,by simp only[denG];rw[hr];rfl,by simp,?_,?_⟩
  ·intro i j y hy
   obtain⟨x,hx,rfl⟩:=@at2_denF b ev _ _ _ _ hy
   refine⟨x,hx,(@denF_one b ev x).symm,?_⟩
   obtain⟨r,h2,h3⟩:=at2_mem hx
   simp only[bO,Bool.and_eq_true]at h
   rcases @rowsOf_mem b ev _ _ _ _ h2 with h2|⟨q,hq,rfl⟩|h2
   ·have hc:=@Ev.seq_cl b ev base r h2 _ h3
    rw[@denF_cl b ev x hc]
    exact Slot.data (hc.den 12) (hc.den 12) hc (cl_noUps 12 _ hc)
   ·exact sO_ok (List.all_eq_true.1 (List.all_eq_true.1 h.1 q hq) x h3)
   ·exact sO_ok (List.all_eq_true.1 (List.all_eq_true.1 h.2 r h2) x h3)
  ·intro h e he
   obtain⟨r,hr,rfl⟩:=List.mem_map.1 he
   rw[List.length_map];exact h r hr
 |_=>cases h
theorem bI_ok {h1:AH} {i:Nat} {B:Blk} (hi:h1 i=@denG b ev B) (h:bI b n B=true):BlkS bk0 ev0 b ev (idl n) h1 (some i) B:=by
 cases B with
 |cells T sz els =>
  refine⟨trivial,T,sz,els.map (·.map (@denF b ev)),els,by rw[hi];rfl,rfl,by simp,?_,?_⟩
  ·intro i j y hy
   obtain⟨r,hr,hxr⟩:=at2_mem hy
   exact⟨_,by rw[at2_map,hy];rfl,@denF_one b ev y,sI_ok (List.all_eq_true.1 (List.all_eq_true.1 h r hr) y hxr)⟩
  ·intro h e he
   have:=h _ (List.mem_map.2 ⟨e,he,rfl⟩)
   rwa[List.length_map]at this
 |sc T sz base ups tail p =>
  simp only[bI,Bool.and_eq_true,List.isEmpty_iff]at h
  obtain⟨⟨hu,rfl⟩,h⟩:=h
  obtain⟨t,ht,hp⟩:=List.any_eq_true.1 h
  rw[Bool.and_eq_true]at hp
  have hp1:t.1=base:=eq_of_beq hp.1
  have hp2:t.2=p:=eq_of_beq hp.2
  have hl:=@Ev.slen b ev t ht
  rw[hp1,hp2]at hl
  have hr:=@rows_denF b ev base ups []
  refine⟨⟨?_,?_⟩,T,sz,(@rowsOf b ev base ups []).map (·.map (@denF b ev)),@rowsOf b ev base ups [],?_,rfl,by simp,?_,?_⟩
  ·rw[@rowsOf_len b ev]
   simp only[List.length_nil,Nat.add_zero]
   exact hl.symm
  ·intro q hq
   have:=List.all_eq_true.1 hu q hq
   simp only[Bool.and_eq_true]at this
   obtain⟨z,hz,hzq⟩:=List.any_eq_true.1 this.2
   rw[Bool.and_eq_true]at hzq
   have hz1:z.1=base:=eq_of_beq hzq.1
   have hz2:z.2.1=q.1:=eq_of_beq hzq.2
   obtain⟨k1,k2,-⟩:=@Ev.sat b ev z hz
   rw[hz2]at k1 k2
   rw[hz1]at k2
   exact⟨k1,(List.getElem?_eq_some_iff.1 k2).1⟩
  ·rw[hi];simp only[denG];rw[hr];rfl
  ·intro i j y hy
   refine⟨@denF b ev y,by rw[at2_map,hy];rfl,@denF_one b ev y,?_⟩
   obtain⟨r,h2,h3⟩:=at2_mem hy
   rcases @rowsOf_mem b ev _ _ _ _ h2 with h2|⟨q,hq,rfl⟩|h2
   ·have hc:=@Ev.seq_cl b ev base r h2 _ h3
    rw[@denF_cl b ev y hc]
    exact Slot.data (hc.den 12) (hc.den 12) hc (cl_noUps 12 _ hc)
   ·have:=List.all_eq_true.1 hu q hq
    simp only[Bool.and_eq_true]at this
    exact sI_ok (List.all_eq_true.1 this.1 y h3)
   ·exact absurd h2 List.not_mem_nil
  ·intro h e he
   have:=h _ (List.mem_map.2 ⟨e,he,rfl⟩)
   rwa[List.length_map]at this
 |_=>cases h
theorem idl_nd {n:Nat}:∀(i j k:Nat),(idl n)[i]?=some (some k)→(idl n)[j]?=some (some k)→i=j:=by
 intro i j k hi hj
 unfold idl at hi hj
 rw[List.getElem?_map]at hi hj
 obtain⟨x,hx,e⟩:=Option.map_eq_some_iff.1 hi
 obtain⟨y,hy,e'⟩:=Option.map_eq_some_iff.1 hj
 cases e;cases e'
 obtain⟨a1,a2⟩:=List.getElem?_eq_some_iff.1 hx
 obtain⟨b1,b2⟩:=List.getElem?_eq_some_iff.1 hy
 rw[List.getElem_range]at a2 b2
 omega
end
theorem pre_out' (b:Bk) (ev:@Ev b) {A:Nat→Prop} {w0:World} {a0:Act} {m:Nat→St} {w:World} {a:Act} {f:List AV} {bs:List Blk} (pr:@Pre b ev A w0 a0 m w a f (hOf bs)) (hf:(f.all (sO bs.length)&&bs.all (bO bs.length))=true) :
  ∃m',@Pre bk0 ev0 A w0 a0 m' w a (f.map (@denF b ev)) (hOf (bs.map (@denG b ev))):=by
 rw[Bool.and_eq_true]at hf
 refine⟨_,Pre.to (ids:=idl bs.length) pr (sOs_ok hf.1) ?_ idl_nd⟩
 have:=blks_go b ev bk0 ev0 (idl bs.length) (h1:=hOf bs) (bs:=bs.map (@denG b ev)) some ?_
 ·rw[List.length_map]at this;exact this
 ·intro i B hB
  rw[List.getElem?_map]at hB
  obtain⟨B',h',rfl⟩:=Option.map_eq_some_iff.1 hB
  exact bO_ok (by unfold hOf;rw[List.getD,h'];rfl) (List.all_eq_true.1 hf.2 B' (List.mem_of_getElem? h'))
theorem pre_in' (b:Bk) (ev:@Ev b) {A:Nat→Prop} {w0:World} {a0:Act} {m:Nat→St} {w:World} {a:Act} {f fc:List AV} {bs bc:List Blk} (pr:@Pre bk0 ev0 A w0 a0 m w a fc (hOf bc)) (ef:f.map (@denF b ev)=fc) (eb:bs.map (@denG b ev)=bc) (hf:(f.all (sI b bs.length)&&bs.all (bI b bs.length))=true) (hg:b.glob=[]:=by rfl) :
  ∃m',@Pre b ev A w0 a0 m' w a f (hOf bs):=by
 subst ef
 subst eb
 rw[Bool.and_eq_true]at hf
 refine⟨_,Pre.to (ids:=idl bs.length) pr (sIs_ok hf.1) ?_ idl_nd hg⟩
 refine blks_go bk0 ev0 b ev (idl bs.length) (bs:=bs) some ?_
 intro i B hB
 exact bI_ok (by unfold hOf;rw[List.getD,List.getElem?_map,hB];rfl) (List.all_eq_true.1 hf.2 B (List.mem_of_getElem? hB))
def slotC (ids:Ids) (x y:AV):Bool:=match x,y with
 | .emp,.own _ _ id 0 0=>decide (ids[id]?=some none)
 | .emp,.lit _ []=>true
 |x,y=>slotB ids 16 x y
def upsC (ids:Ids):List (Poly×List AV)→List (Poly×List AV)→Bool
 |[],[]=>true
 |q'::l',q::l=>decide (q'.1=q.1)&&eqL (slotC ids) q'.2 q.2&&q.2.all (fun x=>x.one)&&upsC ids l' l
 |_,_=>false
def blkU (ids:Ids) (h:AH) (o:Option Nat) (B:Blk):Bool:=match o,B with
 |some i,.sc T sz base ups [] n=>(match h i with | .sc T' sz' base' ups' [] n'=>decide (T'=T∧sz'=sz∧base'=base∧n'=n)&&upsC ids ups' ups|_=>false)
 |_,_=>false
def blkC (ids:Ids) (h:AH) (o:Option Nat) (B:Blk):Bool:=blkU ids h o B||match o,B with
 |none,.cells _ _ []=>true
 |some i,.cells T sz els=>(match h i with | .cells T' sz' els'=>decide (T'=T∧sz'=sz)&&(eqLL (slotC ids) els' els&&els.all (·.all fun x=>x.one))|_=>false)
 |o,B=>blkB ids h o B
def blksC (ids:Ids) (h:AH):Ids→List Blk→Bool
 |[],[]=>true
 |o::l,B::bs=>blkC ids h o B&&blksC ids h l bs
 |_,_=>false
theorem slotC_ok [b:Bk] [e:Ev] {ids:Ids} {x y:AV} (h:slotC ids x y=true):Slot b e b e ids x y:=by
 unfold slotC at h
 split at h
 ·exact Slot.emp_own (of_decide_eq_true h)
 ·exact Slot.emp_lit
 ·exact slotB_ok h
theorem slotsC_ok [b:Bk] [e:Ev] {ids:Ids}:∀{l l':List AV},eqL (slotC ids) l l'=true→SlotL b e b e ids l l'
 |[],[],_=>.nil
 |[],_::_,h=>by cases h
 |_::_,[],h=>by cases h
 |x::l,y::m,h=>by
  unfold eqL at h
  rw[Bool.and_eq_true]at h
  exact .cons (slotC_ok h.1) (slotsC_ok h.2)
theorem slotC_one {ids:Ids} {x y:AV} (h:slotC ids x y=true) (hy:y.one=true):x.one=true:=by
 unfold slotC at h
 split at h
 ·rfl
 ·rfl
 ·exact slotB_one h hy
def RowC (b:Bk) (e:@Ev b) (ids:Ids) (r' r:List AV):Prop:=r'.length=r.length∧∀(j:Nat) (y:AV),r[j]?=some y→∃x,r'[j]?=some x∧x.one=y.one∧Slot b e b e ids x y
theorem RowC.of [b:Bk] [e:Ev] {ids:Ids} {r' r:List AV} (h:eqL (slotC ids) r' r=true) (h1:r.all (fun x=>x.one)=true):RowC b e ids r' r:=by
 obtain⟨l,g⟩:=eqL_get h
 refine⟨l,fun j y hy=>?_⟩
 obtain⟨x,hx,hs⟩:=g j y hy
 have hy1:=List.all_eq_true.1 h1 y (List.mem_of_getElem? hy)
 exact⟨x,hx,by rw[hy1];exact slotC_one hs hy1,slotC_ok hs⟩
theorem upsC_ok [b:Bk] [e:Ev] {ids:Ids}:∀{ups' ups:List (Poly×List AV)},upsC ids ups' ups=true→∀(l' l:List (List AV)),l'.length=l.length→(∀(i:Nat) (r' r:List AV),l'[i]?=some r'→l[i]?=some r→RowC b e ids r' r) →
  (∀q∈ups,∃q'∈ups',q'.1=q.1)∧(ups'.foldl (fun l q=>l.set (pev Ev.rho q.1).toNat q.2) l').length=(ups.foldl (fun l q=>l.set (pev Ev.rho q.1).toNat q.2) l).length∧∀(i:Nat) (r' r:List AV),(ups'.foldl (fun l q=>l.set (pev Ev.rho q.1).toNat q.2) l')[i]?=some r'→(ups.foldl (fun l q=>l.set (pev Ev.rho q.1).toNat q.2) l)[i]?=some r→RowC b e ids r' r
 |[],[],_,l',l,hl,hr=>⟨fun q hq=>absurd hq List.not_mem_nil,hl,hr⟩
 |[],_::_,h,_,_,_,_=>by cases h
 |_::_,[],h,_,_,_,_=>by cases h
 |q'::ups',q::ups,h,l',l,hl,hr=>by
  unfold upsC at h
  simp only[Bool.and_eq_true,decide_eq_true_eq]at h
  obtain⟨⟨⟨h1,h2⟩,h3⟩,h4⟩:=h
  obtain⟨k0,k1,k2⟩:=upsC_ok h4 (l'.set (pev Ev.rho q'.1).toNat q'.2) (l.set (pev Ev.rho q.1).toNat q.2) (by simp[hl]) (by
   intro i r' r hi hj
   rw[h1,List.getElem?_set]at hi
   rw[List.getElem?_set]at hj
   split at hi
   ·rename_i he
    rw[if_pos he]at hj
    rw[hl]at hi
    split at hi
    ·rename_i hlt
     rw[if_pos hlt]at hj
     cases hi;cases hj
     exact RowC.of h2 h3
    ·cases hi
   ·rename_i he
    rw[if_neg he]at hj
    exact hr i r' r hi hj)
  refine⟨?_,k1,k2⟩
  intro z hz
  rcases List.mem_cons.1 hz with rfl|hz
  ·exact⟨q',by simp,h1⟩
  ·obtain⟨y,hy,e⟩:=k0 z hz
   exact⟨y,by simp[hy],e⟩
theorem blkU_ok [b:Bk] [e:Ev] {ids:Ids} {h:AH} (hs:∀i,ScOk (h i)) {o:Option Nat} {B:Blk} (hb:blkU ids h o B=true):BlkS b e b e ids h o B:=by
 unfold blkU at hb
 split at hb
 ·rename_i i T sz base ups n
  split at hb
  ·rename_i T' sz' base' ups' n' hi
   rw[Bool.and_eq_true,decide_eq_true_eq]at hb
   obtain⟨⟨rfl,rfl,rfl,rfl⟩,h2⟩:=hb
   obtain⟨k0,k1,k2⟩:=upsC_ok h2 (Ev.seq base') (Ev.seq base') rfl (fun i r' r hi hj=>by
    rw[hi]at hj;cases hj
    exact⟨rfl,fun j y hy=>⟨y,hy,rfl,Slot.cl (Ev.seq_cl base' r' (List.mem_of_getElem? hi) y (List.mem_of_getElem? hy))⟩⟩)
   have hsc:=hs i
   rw[hi]at hsc
   obtain⟨s1,s2⟩:=hsc
   refine⟨⟨?_,?_⟩,T',sz',rowsOf base' ups' [],rowsOf base' ups [],by rw[hi];rfl,rfl,?_,?_,?_⟩
   ·rw[s1,rowsOf_len,rowsOf_len]
   ·intro q hq
    obtain⟨q',hq',e⟩:=k0 q hq
    rw[←e];exact s2 q' hq'
   ·rw[rowsOf_len,rowsOf_len]
   ·intro i j y hy
    unfold rowsOf at hy ⊢
    rw[List.append_nil]at hy ⊢
    unfold at2 at hy ⊢
    cases hr:(ups.foldl (fun l q=>l.set (pev Ev.rho q.1).toNat q.2) (Ev.seq base'))[i]? with
    |none=>rw[hr]at hy;cases hy
    |some r =>
     rw[hr]at hy
     have hlt:=(List.getElem?_eq_some_iff.1 hr).1
     rw[←k1]at hlt
     have hr':=List.getElem?_eq_getElem hlt
     obtain⟨-,g⟩:=k2 i _ r hr' hr
     obtain⟨x,q1,q2,q3⟩:=g j y hy
     exact⟨x,by rw[hr'];exact q1,q2,q3⟩
   ·intro hz r hr
    unfold rowsOf at hz hr
    rw[List.append_nil]at hz hr
    obtain⟨i,hi'⟩:=List.mem_iff_getElem?.1 hr
    have hlt:=(List.getElem?_eq_some_iff.1 hi').1
    rw[←k1]at hlt
    have hr':=List.getElem?_eq_getElem hlt
    rw[←(k2 i _ r hr' hi').1]
    exact hz _ (List.mem_of_getElem? hr')
  ·cases hb
 ·cases hb
theorem blkC_ok [b:Bk] [e:Ev] {ids:Ids} {h:AH} (hs:∀i,ScOk (h i)) {o:Option Nat} {B:Blk} (hb:blkC ids h o B=true):BlkS b e b e ids h o B:=by
 unfold blkC at hb
 rw[Bool.or_eq_true]at hb
 rcases hb with hb|hb
 ·exact blkU_ok hs hb
 split at hb
 ·exact⟨trivial,_,_,rfl⟩
 ·rename_i i T sz els
  split at hb
  ·rename_i T' sz' els' hi
   rw[Bool.and_eq_true,Bool.and_eq_true,decide_eq_true_eq]at hb
   obtain⟨⟨rfl,rfl⟩,h2,h3⟩:=hb
   obtain⟨l1,l2⟩:=eqLL_at h2
   refine⟨trivial,T',sz',els',els,by rw[hi];rfl,rfl,l1,?_,eqLL_sz h2⟩
   intro i j y hy
   obtain⟨x,q1,q2⟩:=l2 i j y hy
   obtain⟨r,hr,hyr⟩:=at2_mem hy
   have hy1:y.one=true:=List.all_eq_true.1 (List.all_eq_true.1 h3 r hr) y hyr
   exact⟨x,q1,by rw[hy1];exact slotC_one q2 hy1,slotC_ok q2⟩
  ·cases hb
 ·exact blkB_ok hs hb
theorem blksC_ok [b:Bk] [e:Ev] {ids:Ids} {h:AH} (hs:∀i,ScOk (h i)):∀{l:Ids} {bs:List Blk},blksC ids h l bs=true→BlkL b e b e ids h l bs
 |[],[],_=>.nil
 |[],_::_,h=>by cases h
 |_::_,[],h=>by cases h
 |o::l,B::bs,h=>by
  unfold blksC at h
  rw[Bool.and_eq_true]at h
  exact .cons (blkC_ok hs h.1) (blksC_ok hs h.2)
def ndC (ids:Ids):Bool:=decide (ids.filterMap id).Nodup
theorem ndC_ok:∀{ids:Ids},ndC ids=true→∀(i j k:Nat),ids[i]?=some (some k)→ids[j]?=some (some k)→i=j:=by
 intro ids h
 have hn:(ids.filterMap id).Nodup:=of_decide_eq_true h
 clear h
 induction ids with
 |nil=>intro i j k hi;simp at hi
 |cons o l ih =>
  have mem:∀k i,l[i]?=some (some k)→k∈l.filterMap id:=fun k i h=>List.mem_filterMap.2 ⟨_,List.mem_of_getElem? h,rfl⟩
  cases o with
  |none =>
   intro i j k hi hj
   cases i with
   |zero=>cases hi
   |succ i=>cases j with
    |zero=>cases hj
    |succ j=>exact congrArg Nat.succ (ih hn i j k hi hj)
  |some o =>
   have hn:(o::l.filterMap id).Nodup:=hn
   rw[List.nodup_cons]at hn
   intro i j k hi hj
   cases i with
   |zero=>cases j with
    |zero=>rfl
    |succ j=>cases hi;exact absurd (mem _ j hj) hn.1
   |succ i=>cases j with
    |zero=>cases hj;exact absurd (mem _ i hi) hn.1
    |succ j=>exact congrArg Nat.succ (ih hn.2 i j k hi hj)
abbrev lC (ids:Ids) (o:Option (RT Out)) (f:List AV) (t:List Mc.Blk):Bool:=eqL (slotC ids) (lOf o) f&&blksC ids (oT o).get ids t&&ndC ids&&(f.all (sO t.length)&&t.all (bO t.length))
theorem shortC (b:Bk) (ev:@Ev b) {ids:Ids} {A:Nat→Prop} {w0:World} {a0:Act} {m:Nat→St} {w:World} {a:Act} {o:Option (RT Out)} {f2:List AV} {bs:List Blk} (pr:@Pre b ev A w0 a0 m w a (lOf o) (oT o).get) (hK:lC ids o f2 bs=true) (hg:b.glob=[]) :
  ∃m',@Pre bk0 ev0 A w0 a0 m' w a (f2.map (@denF b ev)) (hOf (bs.map (@denG b ev))):=by
 simp only[lC,Bool.and_eq_true]at hK
 refine pre_out' b ev (pr.to (slotsC_ok hK.1.1.1) (blksC_ok pr.rel.scs hK.1.1.2) (ndC_ok hK.1.2) hg) ?_
 rw[Bool.and_eq_true];exact hK.2
def fr (N:Nat) (l:List (Nat×AV)):List AV:=(List.range N).map fun i=>((l.find? fun t=>t.1==i).map (·.2)).getD .junk
end Go.Proofs.Ytjccjmmbebiegaa.Mc
namespace Go.Proofs.Ytjccjmmbebiegaa
open Go.RowKit Mc
def SegA (b:Bk) (c:Code) (fi:List AV) (bi:List Mc.Blk) (ids:Ids) (fo:List AV) (bo:List Mc.Blk) (o:Option (RT Out)):Prop:=rnA b c fi.length fi bi bi.length=o∧(fi.all (sI b bi.length)&&bi.all (bI b bi.length))=true∧(stopB o&&lC ids o fo bo)=true
def SegD (b:Bk) (c:Code) (fi:List AV) (bi:List Mc.Blk) (x:Nat) (ids:Ids) (fo:List AV) (bo:List Mc.Blk):Prop:=∃o,rnA b c fi.length fi bi bi.length=o∧(fi.all (sI b bi.length)&&bi.all (bI b bi.length))=true∧(doneB o x&&lC ids o fo bo)=true
def SegRA (b:Bk) (c:Option (RT Out)) (k:Nat) (fi:List AV) (bi:List Mc.Blk) (ids:Ids) (fo:List AV) (bo:List Mc.Blk) (o:Option (RT Out)):Prop:=rsA b c k fi.length fi bi bi.length=o∧(fi.all (sI b bi.length)&&bi.all (bI b bi.length))=true∧(stopB o&&lC ids o fo bo)=true
def SegRD (b:Bk) (c:Option (RT Out)) (k:Nat) (fi:List AV) (bi:List Mc.Blk) (x:Nat) (ids:Ids) (fo:List AV) (bo:List Mc.Blk):Prop:=∃o,rsA b c k fi.length fi bi bi.length=o∧(fi.all (sI b bi.length)&&bi.all (bI b bi.length))=true∧(doneB o x&&lC ids o fo bo)=true
def SegR (b:Bk) (fn:Func) (c:Code) (fi:List AV) (bi:List Mc.Blk) (r:AV):Prop:=∃o,rnA b c fi.length fi bi bi.length=o∧(fi.all (sI b bi.length)&&bi.all (bI b bi.length))=true∧(doneB o 1||doneB o 0)=true∧((resultsA Try.prog fn (lOf o) (oT o).get).bind fun x=>(frz (oT o).get 16 x).map (·.1))=some r
def SegRR (b:Bk) (fn:Func) (c:Option (RT Out)) (k:Nat) (fi:List AV) (bi:List Mc.Blk) (r:AV):Prop:=∃o,rsA b c k fi.length fi bi bi.length=o∧(fi.all (sI b bi.length)&&bi.all (bI b bi.length))=true∧(doneB o 1||doneB o 0)=true∧((resultsA Try.prog fn (lOf o) (oT o).get).bind fun x=>(frz (oT o).get 16 x).map (·.1))=some r
def SegT (b:Bk) (fn:Func) (c:Code) (fi:List AV) (bi:List Mc.Blk) (r:AV):Prop:=∃o,rnA b c fi.length fi bi bi.length=o∧(fi.all (sI b bi.length)&&bi.all (bI b bi.length))=true∧doneB o 1=true∧((resultsA Try.prog fn (lOf o) (oT o).get).bind fun x=>(frz (oT o).get 16 x).map (·.1))=some r
section
variable {b:Bk} {ev:@Ev b} {A:Nat→Prop} {w0:World} {a0:Act} {mm:Nat→St} {w:World} {a:Act} {Φ:Post} {c:Code} {oA:Option (RT Out)} {fi fo fc fd:List AV} {bi bo bc bd:List Mc.Blk} {ids:Ids} {k x:Nat}
theorem SegA.go {o:Option (RT Out)} (s:SegA b c fi bi ids fo bo o) (ev:@Ev b) (hX:@ExtOk b ev Try.prog) (pr:@Pre bk0 ev0 A w0 a0 mm w a fc (hOf bc)) (kk:∀mm w a,@Pre bk0 ev0 A w0 a0 mm w a fd (hOf bd)→(Code.loop (oCode o)).wpIn (fw none) 9 Try.prog (KS Try.prog (oK o) Φ) a w)
  (ef:fi.map (@denF b ev)=fc:=by rfl) (eb:bi.map (@denG b ev)=bc:=by rfl) (eg:fo.map (@denF b ev)=fd:=by rfl) (eh:bo.map (@denG b ev)=bd:=by rfl) (hg:b.glob=[]:=by rfl):c.wpIn (fw none) 9 Try.prog Φ a w:=by
 obtain⟨h1,h2,h3⟩:=s
 rw[Bool.and_eq_true]at h3
 obtain⟨m1,pr⟩:=pre_in' b ev pr ef eb h2 hg
 refine run_stop b ev hX (L:=100000) (d:=60) (k:=100) o h1 h3.1 (Nat.le_refl _) pr ?_
 intro mm w a pr
 obtain⟨m2,pr⟩:=shortC b ev pr h3.2 hg
 rw[eg,eh]at pr
 exact kk _ _ _ pr
theorem SegD.go (s:SegD b c fi bi x ids fo bo) (ev:@Ev b) (hX:@ExtOk b ev Try.prog) (pr:@Pre bk0 ev0 A w0 a0 mm w a fc (hOf bc)) (kk:∀mm w a,@Pre bk0 ev0 A w0 a0 mm w a fd (hOf bd)→Φ (xOf x).to a w)
  (ef:fi.map (@denF b ev)=fc:=by rfl) (eb:bi.map (@denG b ev)=bc:=by rfl) (eg:fo.map (@denF b ev)=fd:=by rfl) (eh:bo.map (@denG b ev)=bd:=by rfl) (hg:b.glob=[]:=by rfl):c.wpIn (fw none) 9 Try.prog Φ a w:=by
 obtain⟨o,h1,h2,h3⟩:=s
 rw[Bool.and_eq_true]at h3
 obtain⟨m1,pr⟩:=pre_in' b ev pr ef eb h2 hg
 refine run_done b ev hX (L:=100000) (d:=60) (k:=100) o h1 h3.1 (Nat.le_refl _) pr ?_
 intro mm w a pr
 obtain⟨m2,pr⟩:=shortC b ev pr h3.2 hg
 rw[eg,eh]at pr
 exact kk _ _ _ pr
theorem SegRA.go {o:Option (RT Out)} (s:SegRA b oA k fi bi ids fo bo o) (ev:@Ev b) (hX:@ExtOk b ev Try.prog) (pr:@Pre bk0 ev0 A w0 a0 mm w a fc (hOf bc)) (kk:∀mm w a,@Pre bk0 ev0 A w0 a0 mm w a fd (hOf bd)→(Code.loop (oCode o)).wpIn (fw none) 9 Try.prog (KS Try.prog (oK o) Φ) a w)
  (ef:fi.map (@denF b ev)=fc:=by rfl) (eb:bi.map (@denG b ev)=bc:=by rfl) (eg:fo.map (@denF b ev)=fd:=by rfl) (eh:bo.map (@denG b ev)=bd:=by rfl) (hg:b.glob=[]:=by rfl):KS Try.prog (oK oA) Φ (AX.exit k).to a w:=by
 obtain⟨h1,h2,h3⟩:=s
 rw[Bool.and_eq_true]at h3
 obtain⟨m1,pr⟩:=pre_in' b ev pr ef eb h2 hg
 refine res_stop b ev hX (L:=100000) (d:=60) o h1 h3.1 (Nat.le_refl _) pr ?_
 intro mm w a pr
 obtain⟨m2,pr⟩:=shortC b ev pr h3.2 hg
 rw[eg,eh]at pr
 exact kk _ _ _ pr
theorem SegRD.go (s:SegRD b oA k fi bi x ids fo bo) (ev:@Ev b) (hX:@ExtOk b ev Try.prog) (pr:@Pre bk0 ev0 A w0 a0 mm w a fc (hOf bc)) (kk:∀mm w a,@Pre bk0 ev0 A w0 a0 mm w a fd (hOf bd)→Φ (xOf x).to a w)
  (ef:fi.map (@denF b ev)=fc:=by rfl) (eb:bi.map (@denG b ev)=bc:=by rfl) (eg:fo.map (@denF b ev)=fd:=by rfl) (eh:bo.map (@denG b ev)=bd:=by rfl) (hg:b.glob=[]:=by rfl):KS Try.prog (oK oA) Φ (AX.exit k).to a w:=by
 obtain⟨o,h1,h2,h3⟩:=s
 rw[Bool.and_eq_true]at h3
 obtain⟨m1,pr⟩:=pre_in' b ev pr ef eb h2 hg
 refine res_done b ev hX (L:=100000) (d:=60) o h1 h3.1 (Nat.le_refl _) pr ?_
 intro mm w a pr
 obtain⟨m2,pr⟩:=shortC b ev pr h3.2 hg
 rw[eg,eh]at pr
 exact kk _ _ _ pr
theorem fin_of {fn:Func} {r r':AV} {o:Option (RT Out)} (ev:@Ev b) (hr:((resultsA Try.prog fn (lOf o) (oT o).get).bind fun x=>(frz (oT o).get 16 x).map (·.1))=some r) (er:@den b ev 12 r=r') (pr:@Pre b ev A w0 a0 mm w a (lOf o) (oT o).get) {e:Exit} (he:e=.normal∨e=.ret):Fin Try.prog fn A w0 a0 r' e a w:=by
 cases h1:resultsA Try.prog fn (lOf o) (oT o).get with
 |none=>rw[h1]at hr;cases hr
 |some x =>
  rw[h1]at hr
  cases h2:frz (oT o).get 16 x with
  |none=>simp[h2]at hr
  |some y =>
   obtain⟨y,js⟩:=y
   simp only[Option.bind_some,h2,Option.map_some,Option.some.injEq]at hr
   subst hr
   exact⟨he,b,ev,mm,lOf o,(oT o).get,x,y,js,pr,h1,h2,er⟩
theorem SegR.go {fn:Func} {r r':AV} (s:SegR b fn c fi bi r) (ev:@Ev b) (hX:@ExtOk b ev Try.prog) (pr:@Pre bk0 ev0 A w0 a0 mm w a fc (hOf bc))
  (ef:fi.map (@denF b ev)=fc:=by rfl) (eb:bi.map (@denG b ev)=bc:=by rfl) (er:@den b ev 12 r=r':=by rfl) (hg:b.glob=[]:=by rfl):c.wpIn (fw none) 9 Try.prog (Fin Try.prog fn A w0 a0 r') a w:=by
 obtain⟨o,h1,h2,h3,h4⟩:=s
 obtain⟨m1,pr⟩:=pre_in' b ev pr ef eb h2 hg
 rw[Bool.or_eq_true]at h3
 rcases h3 with h3|h3
 ·exact run_done b ev hX (L:=100000) (d:=60) (k:=100) o h1 h3 (Nat.le_refl _) pr fun mm w a pr=>fin_of ev h4 er pr (.inr rfl)
 ·exact run_done b ev hX (L:=100000) (d:=60) (k:=100) o h1 h3 (Nat.le_refl _) pr fun mm w a pr=>fin_of ev h4 er pr (.inl rfl)
theorem SegRR.go {fn:Func} {r r':AV} (s:SegRR b fn oA k fi bi r) (ev:@Ev b) (hX:@ExtOk b ev Try.prog) (pr:@Pre bk0 ev0 A w0 a0 mm w a fc (hOf bc))
  (ef:fi.map (@denF b ev)=fc:=by rfl) (eb:bi.map (@denG b ev)=bc:=by rfl) (er:@den b ev 12 r=r':=by rfl) (hg:b.glob=[]:=by rfl):KS Try.prog (oK oA) (Fin Try.prog fn A w0 a0 r') (AX.exit k).to a w:=by
 obtain⟨o,h1,h2,h3,h4⟩:=s
 obtain⟨m1,pr⟩:=pre_in' b ev pr ef eb h2 hg
 rw[Bool.or_eq_true]at h3
 rcases h3 with h3|h3
 ·exact res_done b ev hX (L:=100000) (d:=60) o h1 h3 (Nat.le_refl _) pr fun mm w a pr=>fin_of ev h4 er pr (.inr rfl)
 ·exact res_done b ev hX (L:=100000) (d:=60) o h1 h3 (Nat.le_refl _) pr fun mm w a pr=>fin_of ev h4 er pr (.inl rfl)
theorem SegT.go {fn:Func} {r r':AV} (s:SegT b fn c fi bi r) (ev:@Ev b) (hX:@ExtOk b ev Try.prog) (pr:@Pre bk0 ev0 A w0 a0 mm w a fc (hOf bc)) (kk:∀a w,Fin Try.prog fn A w0 a0 r' .ret a w→Φ .ret a w)
  (ef:fi.map (@denF b ev)=fc:=by rfl) (eb:bi.map (@denG b ev)=bc:=by rfl) (er:@den b ev 12 r=r':=by rfl) (hg:b.glob=[]:=by rfl):c.wpIn (fw none) 9 Try.prog Φ a w:=by
 obtain⟨o,h1,h2,h3,h4⟩:=s
 obtain⟨m1,pr⟩:=pre_in' b ev pr ef eb h2 hg
 exact run_done b ev hX (L:=100000) (d:=60) (k:=100) o h1 h3 (Nat.le_refl _) pr fun mm w a pr=>kk _ _ (fin_of ev h4 er pr (.inr rfl))
theorem xK {b:Bk} {ev:@Ev b} (hk:@KnL b ev Try.prog b.extV) (h1:b.ext=[]:=by rfl) (h2:b.yes=[]:=by rfl):@ExtOk b ev Try.prog:=xKn b ev hk h1 h2
end
theorem aY {xs:List Int} {i:Nat} {z:List Lay} {x:Lay} (h:z[(xs.getD i 0).toNat]?=some x):(laysR z)[(pev (fun k=>xs.getD k 0) [([i],1)]).toNat]?=some [.i x.q,.i x.v,.i x.p]:=at_eq (pv_get _ _) (by rw[laysR,List.getElem?_map,h];rfl)
end Go.Proofs.Ytjccjmmbebiegaa
