/-
 A machine of plain data beside the model: contracts over closed data; what a run by names says of them. No program in sight.
 A machine of plain data beside the model: runs up to a loop's head, and on from its end; loops whose rounds are runs by names. No program in sight.
 A machine of plain data beside the model: what is known, said by other names; a body with loops as a contract. No program in sight.
 A machine of plain data beside the model: what a stopped run holds, checked by looking. No program in sight.
 A machine of plain data beside the model: a loop's head said by closed data; in and out by names. No program in sight.
-/
import Derived.Test.YtjccjmmbebiegaaM15
set_option linter.unusedVariables false
set_option linter.unusedSimpArgs false
namespace Go.Proofs.Ytjccjmmbebiegaa.Mc
open Go.RowKit
section
variable {P:Program}
structure CK (P:Program) (k:FuncId) (as:List AV) (r:AV):Prop where
 args:∀x∈as,Cl x
 res:Cl r
 ok:@KnOk bk0 ev0 P k as r
abbrev AV.i (v:Int):AV:=.c (.int .i64 v)
theorem CK.named (b:Bk) (ev:@Ev b) {k:FuncId} {as as':List AV} {r r':AV} (hc:CK P k as' r') (ea:as.map (@den b ev 12)=as') (er:@den b ev 12 r=r') (hu:noUps 12 r=true):@KnOk b ev P k as r:=by
 subst ea
 subst er
 intro A w vs hA hG hl hv
 refine(hc.ok A w vs hA (fun t h=>absurd h List.not_mem_nil) (by simpa using hl) ?_).mono ?_
 ·intro i y hy
  have hm:=List.mem_of_getElem? hy
  rw[List.getElem?_map]at hy
  obtain⟨x,hx,rfl⟩:=Option.map_eq_some_iff.1 hy
  exact RdL.cl (b1:=b) (e1:=ev) (hc.args _ hm) (@RdL.of_den b ev A w 12 x _ (hv i x hx))
 ·rintro e w' ⟨v,he,h1,h2⟩
  exact⟨v,he,@RdL.to_den b ev A w' 12 r v hu (RdL.cl (b2:=b) (e2:=ev) hc.res h1),h2⟩
theorem CK.of_run (b:Bk) (ev:@Ev b) {L d:Nat} {k:FuncId} {as as':List AV} {r r':AV} (h:@runsTo b P L d k as r=true) (hx:@ExtL b ev P b.ext) (hy:@YesL b ev P b.yes) (hk:@KnL b ev P b.extV) (ea:as.map (@den b ev 12)=as') (er:@den b ev 12 r=r') (ha:∀x∈as',Cl x) (hr:Cl r') (hu:as.all (noUps 12)=true) (hg:b.glob=[]:=by rfl) :
  CK P k as' r':=by
 subst ea
 subst er
 refine⟨ha,hr,?_⟩
 have K:=kn_of b ev b ev rfl h hx hy hk
 intro A w vs hA hG hl hv
 refine(K A w vs hA (@GOk.none b A w hg) (by simpa using hl) ?_).mono ?_
 ·intro i x hx
  have hy:(as.map (@den b ev 12))[i]?=some (@den b ev 12 x):=by rw[List.getElem?_map,hx];rfl
  exact @RdL.to_den b ev A w 12 x _ (List.all_eq_true.1 hu x (List.mem_of_getElem? hx)) (RdL.cl (b1:=bk0) (e1:=ev0) (ha _ (List.mem_of_getElem? hy)) (hv i _ hy))
 ·rintro e w' ⟨v,he,h1,h2⟩
  exact⟨v,he,RdL.cl (b1:=b) (e1:=ev) hr (@RdL.of_den b ev A w' 12 r v h1),h2⟩
theorem CK.cast {k:FuncId} {as as':List AV} {r r':AV} (h:CK P k as r) (ea:as=as') (er:r=r'):CK P k as' r':=by subst ea;subst er;exact h
theorem knNil (b:Bk) (ev:@Ev b):@KnL b ev P []:=@KnL.nil P b ev
theorem knCons (b:Bk) (ev:@Ev b) {k:Nat} {as:List AV} {r:AV} {l:List (Nat×List AV×AV)} (h:@KnOk b ev P k as r) (hl:@KnL b ev P l):@KnL b ev P ((k,as,r)::l):=@KnL.cons P b ev k as r l h hl
theorem exNil (b:Bk) (ev:@Ev b):@ExtL b ev P []:=@ExtL.nil P b ev
theorem yeNil (b:Bk) (ev:@Ev b):@YesL b ev P []:=@YesL.nil P b ev
theorem ones_nil:∀v∈([]:List Value),v.oneCell'=true:=fun v h=>absurd h List.not_mem_nil
theorem ones_cons {v:Value} {l:List Value} (h:v.oneCell'=true) (hl:∀v∈l,v.oneCell'=true):∀u∈v::l,u.oneCell'=true:=by
 intro u hu
 rcases List.mem_cons.1 hu with rfl|hu
 ·exact h
 ·exact hl u hu
theorem spl_nil:∀l∈([]:List (List (List AV))),∀r∈l,∀x∈r,Cl x:=fun v h=>absurd h List.not_mem_nil
theorem spl_cons {l:List (List AV)} {ss:List (List (List AV))} (h:∀r∈l,∀x∈r,Cl x) (hl:∀l∈ss,∀r∈l,∀x∈r,Cl x):∀m∈l::ss,∀r∈m,∀x∈r,Cl x:=by
 intro u hu
 rcases List.mem_cons.1 hu with rfl|hu
 ·exact h
 ·exact hl u hu
inductive LenL (ρ:Nat→Int) (ss:List (List (List AV))):List (Nat×Poly)→Prop
 |nil:LenL ρ ss []
 |cons {k:Nat} {p:Poly} {l:List (Nat×Poly)} (h1:((ss.getD k []).length:Int)=pev ρ p) (h:LenL ρ ss l):LenL ρ ss ((k,p)::l)
theorem LenL.all {ρ:Nat→Int} {ss:List (List (List AV))} {l:List (Nat×Poly)} (h:LenL ρ ss l):∀t∈l,((ss.getD t.1 []).length:Int)=pev ρ t.2:=by
 induction h with
 |nil=>intro t ht;exact absurd ht List.not_mem_nil
 |cons h1 h ih =>
  intro t ht
  rcases List.mem_cons.1 ht with rfl|ht
  ·exact h1
  ·exact ih t ht
inductive AtsL (ρ:Nat→Int) (vl:Nat→Value) (ss:List (List (List AV))):List (Nat×Poly×List AV)→Prop
 |nil:AtsL ρ vl ss []
 |cons {k:Nat} {p:Poly} {r r0:List AV} {l:List (Nat×Poly×List AV)} (h0:0≤pev ρ p) (h1:(ss.getD k [])[(pev ρ p).toNat]?=some r0) (h2:r.map (denW ρ vl (fun i=>ss.getD i []) 12)=r0) (h3:r.all (noUps 12)=true) (h:AtsL ρ vl ss l):AtsL ρ vl ss ((k,p,r)::l)
theorem AtsL.all {ρ:Nat→Int} {vl:Nat→Value} {ss:List (List (List AV))} {l:List (Nat×Poly×List AV)} (h:AtsL ρ vl ss l):∀t∈l,0≤pev ρ t.2.1∧(ss.getD t.1 [])[(pev ρ t.2.1).toNat]?=some (t.2.2.map (denW ρ vl (fun i=>ss.getD i []) 12))∧t.2.2.all (noUps 12)=true:=by
 induction h with
 |nil=>intro t ht;exact absurd ht List.not_mem_nil
 |cons h0 h1 h2 h3 h ih =>
  intro t ht
  rcases List.mem_cons.1 ht with rfl|ht
  ·exact⟨h0,by rw[h2];exact h1,h3⟩
  ·exact ih t ht
abbrev evSeq (b:Bk) (xs:List Int) (vs:List Value) (ss:List (List (List AV))) (hd:DefL (fun i=>xs.getD i 0) b.defs) (hb:BndL b.vars xs) (hf:FctL (fun i=>xs.getD i 0) b.facts) (ho:∀v∈vs,v.oneCell'=true)
  (hl:LenL (fun i=>xs.getD i 0) ss b.lens) (ha:AtsL (fun i=>xs.getD i 0) (fun i=>vs.getD i (.bool false)) ss b.ats) (hs:∀l∈ss,∀r∈l,∀x∈r,Cl x) (hk:b.kinds=[]:=by rfl) (hc:∀t∈b.cats,ss.getD t.2.2 []=ss.getD t.1 []++ss.getD t.2.1 []:=by exact fun t h=>nomatch h):@Ev b :=
 @Ev.mk b xs (ev_vars hb.len hb.all) hf.all hd.all vs ho (fun i c h=>by rw[hk]at h;cases h) ss hl.all ha.all hs hc
end
end Go.Proofs.Ytjccjmmbebiegaa.Mc
set_option linter.unusedVariables false
set_option linter.unusedSimpArgs false
namespace Go.Proofs.Ytjccjmmbebiegaa.Mc
open Go.RowKit
inductive KI where
 |seq (y:Code)|blk (id:Nat)|scope
inductive Out where
 |done (x:AX) (f:Ft)|stop (c:Code) (k:List KI) (f:Ft)
def Out.push (i:KI):Out→Out
 | .stop c k f=>.stop c (k++[i]) f
 |o=>o
def arunT [Bk] (P:Program) (call:CallT) (L:Nat):Nat→Code→Ft→MT Out
 |0,_,_=>tfail
 |n+1,.seq x y,f=>tbind (arunT P call L n x f) fun o=>match o with
  | .done .normal f'=>arunT P call L n y f'
  |o=>tpure (o.push (.seq y))
 |n+1,.cond c x y,f=>match aevT f c with
  | .c (.bool b)=>arunT P call L n (if b then x else y) f
  |_=>tfail
 |n+1,.block id c,f=>tbind (arunT P call L n c f) fun o=>match o with
  | .done (.exit i) f'=>tpure (if i=id then .done .normal f' else .done (.exit i) f')
  |o=>tpure (o.push (.blk id))
 |n+1,.scope c,f=>tbind (arunT P call L n c f) fun o=>tpure (o.push .scope)
 |n+1,.loop c,f=>tpure (.stop c [] f)
 |n+1,c,f=>tbind ((compC P true c).f call L f) fun q=>tpure (.done q.1 q.2)
def aresT [Bk] (P:Program) (call:CallT) (L:Nat):List KI→AX→Ft→MT Out
 |[],x,f=>tpure (.done x f)
 | .seq y::k,x,f=>match x with
  | .normal=>tbind (arunT P call L L y f) fun o=>match o with
   | .done x' f'=>aresT P call L k x' f'
   | .stop c k' f'=>tpure (.stop c (k'++k) f')
  |x=>aresT P call L k x f
 | .blk id::k,x,f=>match x with
  | .exit i=>aresT P call L k (if i=id then .normal else .exit i) f
  |x=>aresT P call L k x f
 | .scope::k,x,f=>aresT P call L k x f
section
variable {P:Program}
abbrev Post:=Exit→Act→World→Prop
structure Pre [Bk] [Ev] (A:Nat→Prop) (w0:World) (a0:Act) (m:Nat→St) (w:World) (a:Act) (f:List AV) (h:AH):Prop where
 ext:Ext (fun _=>.no) w0 m w
 rel:HRel m A h w
 fr:FRel m A w f a
 new:NewM w0 a0 a
def AW [Bk] [Ev] (P:Program) (A:Nat→Prop) (w0:World) (a0:Act) (c:Code) (Φ:Post) (f:List AV) (h:AH):Prop :=
 ∀m w a,Pre A w0 a0 m w a f h→c.wpIn (fw none) 9 P Φ a w
def Sat [Bk] [Ev] (A:Nat→Prop) (w0:World) (a0:Act) (e:Exit) (Φ:Post) (f:List AV) (h:AH):Prop:=∀m w a,Pre A w0 a0 m w a f h→Φ e a w
def KS (P:Program):List KI→Post→Post
 |[],Φ=>Φ
 | .seq y::k,Φ=>fun e a w=>match e with
  | .normal=>y.wpIn (fw none) 9 P (KS P k Φ) a w
  |e=>KS P k Φ e a w
 | .blk id::k,Φ=>fun e a w=>match e with
  | .exit i=>if i=id then KS P k Φ .normal a w else KS P k Φ (.exit i) a w
  |e=>KS P k Φ e a w
 | .scope::k,Φ=>fun e a w=>(∀l,e≠.goto l)∧KS P k Φ e a w
theorem KS_append (k k':List KI) (Φ:Post):KS P (k++k') Φ=KS P k (KS P k' Φ):=by
 induction k with
 |nil=>rfl
 |cons i k ih=>cases i<;>simp only[List.cons_append,KS,ih]
def OutOk [Bk] [Ev] (P:Program) (A:Nat→Prop) (w0:World) (a0:Act) (Φ:Post) (o:Out) (h:AH):Prop:=match o with
 | .done x f=>∀l,FR l f→Sat A w0 a0 x.to Φ l h
 | .stop c k f=>∀l,FR l f→AW P A w0 a0 (.loop c) (KS P k Φ) l h
theorem AW.of_AWP [Bk] [Ev] {A:Nat→Prop} {w0:World} {a0:Act} {c:Code} {Φ:Post} {f:List AV} {h:AH} {Q:Exit→List AV→AH→Prop} (k:AWP P true c Q f h) (hq:∀e f' h',Q e f' h'→Sat A w0 a0 e Φ f' h'):AW P A w0 a0 c Φ f h:=by
 intro m w a pr
 refine wpIn_mono (k none m A w a (fun _=>rfl) pr.rel pr.fr) ?_
 rintro e a' w' ⟨m',f',h',q,H',F',E',N'⟩
 exact hq e f' h' q m' w' a' ⟨pr.ext.trans E',H',F',pr.new.trans pr.ext.size N'⟩
theorem leaf_ok [Bk] [Ev] (hX:ExtOk P) {L d:Nat} {c:Code} {f:Ft} {t:Tr} {n:Nat} {r:RT (AX×Ft)} (hr:(compC P true c).f (acallN P L d) L f t n=some r) {A:Nat→Prop} {w0:World} {a0:Act} {Φ:Post}
  (ho:OutOk P A w0 a0 Φ (.done r.a.1 r.a.2) r.t.get):∀l,FR l f→AW P A w0 a0 c Φ l t.get:=by
 intro l hl
 have h1:=compC_le (acallN_le (P:=P) L d) L c f t n r hr
 obtain⟨a,h2,e1,e2⟩:=sim_code (sim_call (P:=P) L d) L c l f hl t n r h1
 refine AW.of_AWP (acode_ok (acallX_callOk hX L d) L c (fun e f' h'=>e=a.1.to∧f'=a.2∧h'=r.t.get) l t.get n _ h2 ⟨rfl,rfl,rfl⟩) ?_
 rintro e f' h' ⟨rfl,rfl,rfl⟩
 rw[e1]
 exact ho a.2 e2
theorem tbind_inv {α β:Type} {x:MT α} {k:α→MT β} {t:Tr} {n:Nat} {r:RT β} (h:tbind x k t n=some r):∃q s,x t n=some q∧k q.a q.t q.n=some s∧r.a=s.a∧r.t=s.t∧r.n=s.n:=by
 unfold tbind at h
 cases h1:x t n with
 |none=>rw[h1]at h;cases h
 |some q =>
  rw[h1]at h
  simp only at h
  cases h2:k q.a q.t q.n with
  |none=>rw[h2]at h;cases h
  |some s=>rw[h2]at h;cases h;exact⟨q,s,rfl,h2,rfl,rfl,rfl⟩
theorem arunT_ok [Bk] [Ev] (hX:ExtOk P) {L d:Nat} {A:Nat→Prop} {w0:World} {a0:Act}:∀(k:Nat) (c:Code) (Φ:Post) (f:Ft) (t:Tr) (n:Nat) (r:RT Out),arunT P (acallN P L d) L k c f t n=some r→OutOk P A w0 a0 Φ r.a r.t.get→∀l,FR l f→AW P A w0 a0 c Φ l t.get
 |0,c,Φ,f,t,n,r,hr,ho=>by simp only[arunT]at hr;cases hr
 |k+1,c,Φ,f,t,n,r,hr,ho=>by
  have leaf:arunT P (acallN P L d) L (k+1) c f t n=tbind ((compC P true c).f (acallN P L d) L f) (fun q=>tpure (.done q.1 q.2)) t n→∀l,FR l f→AW P A w0 a0 c Φ l t.get:=by
   intro he
   rw[he]at hr
   obtain⟨q,s,h1,h2,e1,e2,-⟩:=tbind_inv hr
   cases h2
   simp only at e1 e2
   refine leaf_ok hX h1 ?_
   rw[e1,e2]at ho
   exact ho
  cases c with
  |seq x y =>
   simp only[arunT]at hr
   obtain⟨q,s,h1,h2,e1,e2,-⟩:=tbind_inv hr
   have key:OutOk P A w0 a0 (KS P [.seq y] Φ) q.a q.t.get:=by
    cases hq:q.a with
    |stop c' k' f' =>
     rw[hq]at h2
     cases h2
     rw[e1,e2]at ho
     intro l hl
     have:=ho l hl
     rw[KS_append]at this
     exact this
    |done x' f' =>
     rw[hq]at h2
     cases x' with
     |normal =>
      simp only at h2
      rw[e1,e2]at ho
      have:=arunT_ok hX k y Φ f' q.t q.n s h2 ho
      intro l hl m w a pr
      exact this l hl m w a pr
     |_ =>
      cases h2
      rw[e1,e2]at ho
      intro l hl m w a pr
      exact ho l hl m w a pr
   have:=arunT_ok hX k x _ f t n q h1 key
   intro l hl m w a pr
   refine wpIn_seq (wpIn_mono (this l hl m w a pr) ?_)
   intro e a' w' hk
   cases e<;>exact hk
  |cond c x y =>
   have hex:∃b,aevT f c=.c (.bool b)∧arunT P (acallN P L d) L k (if b then x else y) f t n=some r:=by
    simp only[arunT]at hr
    cases hv:aevT f c with
    |c v=>cases v with
     |bool b=>simp only[hv]at hr;exact⟨b,rfl,hr⟩
     |_=>simp only[hv]at hr;cases hr
    |_=>simp only[hv]at hr;cases hr
   obtain⟨b,hb,hr⟩:=hex
   have:=arunT_ok hX k (if b then x else y) Φ f t n r hr ho
   intro l hl m w a pr
   have hc:=pr.fr.eval c
   rw[hl.ev,hb]at hc
   exact wpIn_cond hc.bool (this l hl m w a pr)
  |block id c =>
   simp only[arunT]at hr
   obtain⟨q,s,h1,h2,e1,e2,-⟩:=tbind_inv hr
   have key:OutOk P A w0 a0 (KS P [.blk id] Φ) q.a q.t.get:=by
    cases hq:q.a with
    |stop c' k' f' =>
     rw[hq]at h2
     cases h2
     rw[e1,e2]at ho
     intro l hl
     have:=ho l hl
     rw[KS_append]at this
     exact this
    |done x' f' =>
     rw[hq]at h2
     cases x' with
     |exit i =>
      simp only at h2
      cases h2
      rw[e1,e2]at ho
      intro l hl m w a pr
      simp only[KS,AX.to]
      split
      ·rename_i hi;rw[if_pos hi]at ho;exact ho l hl m w a pr
      ·rename_i hi;rw[if_neg hi]at ho;exact ho l hl m w a pr
     |_ =>
      cases h2
      rw[e1,e2]at ho
      intro l hl m w a pr
      exact ho l hl m w a pr
   have:=arunT_ok hX k c _ f t n q h1 key
   intro l hl m w a pr
   refine wpIn_block (wpIn_mono (this l hl m w a pr) ?_)
   intro e a' w' hk
   cases e<;>exact hk
  |scope c =>
   simp only[arunT]at hr
   obtain⟨q,s,h1,h2,e1,e2,-⟩:=tbind_inv hr
   cases h2
   simp only at e1 e2
   have key:OutOk P A w0 a0 (KS P [.scope] Φ) q.a q.t.get:=by
    rw[e1,e2]at ho
    cases hq:q.a with
    |stop c' k' f' =>
     rw[hq]at ho
     intro l hl
     have:=ho l hl
     rw[KS_append]at this
     exact this
    |done x' f' =>
     rw[hq]at ho
     intro l hl m w a pr
     exact⟨by intro l;cases x'<;>simp[AX.to],ho l hl m w a pr⟩
   have:=arunT_ok hX k c _ f t n q h1 key
   intro l hl m w a pr
   exact wpIn_scope (this l hl m w a pr)
  |loop c =>
   simp only[arunT]at hr
   cases hr
   exact ho
  |_=>exact leaf rfl
theorem aresT_ok [Bk] [Ev] (hX:ExtOk P) {L d:Nat} {A:Nat→Prop} {w0:World} {a0:Act} {Φ:Post}:∀(k:List KI) (x:AX) (f:Ft) (t:Tr) (n:Nat) (r:RT Out),aresT P (acallN P L d) L k x f t n=some r→OutOk P A w0 a0 Φ r.a r.t.get→∀l,FR l f→Sat A w0 a0 x.to (KS P k Φ) l t.get
 |[],x,f,t,n,r,hr,ho=>by
  simp only[aresT]at hr
  cases hr
  exact ho
 | .seq y::k,x,f,t,n,r,hr,ho=>by
  simp only[aresT]at hr
  cases x with
  |normal =>
   simp only at hr
   obtain⟨q,s,h1,h2,e1,e2,-⟩:=tbind_inv hr
   rw[e1,e2]at ho
   have key:OutOk P A w0 a0 (KS P k Φ) q.a q.t.get:=by
    cases hq:q.a with
    |done x' f' =>
     rw[hq]at h2
     exact aresT_ok hX k x' f' q.t q.n s h2 ho
    |stop c' k' f' =>
     rw[hq]at h2
     cases h2
     intro l hl
     have:=ho l hl
     rw[KS_append]at this
     exact this
   intro l hl m w a pr
   exact arunT_ok hX L y _ f t n q h1 key l hl m w a pr
  |_ =>
   have:=aresT_ok hX k _ f t n r hr ho
   intro l hl m w a pr
   exact this l hl m w a pr
 | .blk id::k,x,f,t,n,r,hr,ho=>by
  simp only[aresT]at hr
  cases x with
  |exit i =>
   have:=aresT_ok hX k _ f t n r hr ho
   intro l hl m w a pr
   simp only[KS,AX.to]
   split
   ·rename_i hi;rw[if_pos hi]at this;exact this l hl m w a pr
   ·rename_i hi;rw[if_neg hi]at this;exact this l hl m w a pr
  |_ =>
   have:=aresT_ok hX k _ f t n r hr ho
   intro l hl m w a pr
   exact this l hl m w a pr
 | .scope::k,x,f,t,n,r,hr,ho=>by
  simp only[aresT]at hr
  have:=aresT_ok hX k _ f t n r hr ho
  intro l hl m w a pr
  exact⟨by intro l;cases x<;>simp[AX.to],this l hl m w a pr⟩
theorem loop_rule {c:Code} {Φ:Post} (I:Nat→Act→World→Prop) (round:∀n a w,I n a w→c.wpIn (fw none) 9 P (fun e a' w'=>match e with | .normal=>∃n',n'<n∧I n' a' w'|e=>Φ e a' w') a w) {n:Nat} {a:Act} {w:World} (h0:I n a w):(Code.loop c).wpIn (fw none) 9 P Φ a w:=by
 obtain⟨μ,hμ⟩:=least_fn (fun n (p:Act×World)=>I n p.1 p.2)
 refine wpIn_loop (fun a' w'=>∃n,I n a' w') (fun a' w'=>μ (a',w')) ⟨n,h0⟩ ?_
 intro a1 w1 hex
 have h1:=(hμ (a1,w1) hex).1
 refine wpIn_mono (round _ a1 w1 h1) ?_
 intro e a2 w2 q
 cases e with
 |normal =>
  obtain⟨n',hlt,hI⟩:=q
  exact⟨⟨n',hI⟩,Nat.lt_of_le_of_lt ((hμ (a2,w2) ⟨n',hI⟩).2 n' hI) hlt⟩
 |_=>exact q
end
end Go.Proofs.Ytjccjmmbebiegaa.Mc
set_option linter.unusedVariables false
set_option linter.unusedSimpArgs false
namespace Go.Proofs.Ytjccjmmbebiegaa.Mc
open Go.RowKit
abbrev Ids:=List (Option Nat)
def mOf (m:Nat→St) (ids:Ids):Nat→St:=fun k=>match ids[k]? with
 |none=>.no
 |some none=>.virt
 |some (some i)=>m i
theorem mOf_at {m:Nat→St} {ids:Ids} {k b:Nat} (h:mOf m ids k=.at b):∃i,ids[k]?=some (some i)∧m i=.at b:=by
 unfold mOf at h
 split at h
 ·cases h
 ·cases h
 ·rename_i i hi;exact⟨i,hi,h⟩
theorem mOf_av {m:Nat→St} {ids:Ids} {A:Nat→Prop} {b:Nat} (h:Av (mOf m ids) A b):Av m A b:=by
 rcases h with h|⟨k,h⟩
 ·exact .inl h
 ·obtain⟨i,-,h⟩:=mOf_at h
  exact .inr ⟨i,h⟩
theorem mOf_some {m:Nat→St} {ids:Ids} {k i:Nat} (h:ids[k]?=some (some i)):mOf m ids k=m i:=by unfold mOf;rw[h]
theorem mOf_none {m:Nat→St} {ids:Ids} {k:Nat} (h:ids[k]?=some none):mOf m ids k=.virt:=by unfold mOf;rw[h]
def Slot (b1:Bk) (e1:@Ev b1) (b2:Bk) (e2:@Ev b2) (ids:Ids) (x y:AV):Prop:=∀(m:Nat→St) (A:Nat→Prop) (w:World) (v:Value),@Rd b1 e1 m A w x v→@Rd b2 e2 (mOf m ids) A w y v
section
variable {b1:Bk} {e1:@Ev b1} {b2:Bk} {e2:@Ev b2} {ids:Ids}
theorem Slot.junk {x:AV}:Slot b1 e1 b2 e2 ids x .junk:=fun m A w v h=>@Rd.pure b2 e2 _ A w _ _ (@RdL.junk b2 e2 _ w v)
theorem Rd.den_to [Bk] [Ev] {m:Nat→St} {A:Nat→Prop} {w:World}:∀(k:Nat) (x:AV) (v:Value),Rd m A w x v→Rd m A w (den k x) v
 |0,x,v,h=>h
 |k+1,x,v,h=>by
  have ih:∀(x:AV) (v:Value),Rd m A w x v→Rd m A w (den k x) v:=Rd.den_to k
  cases h with
  |pure _ _ h=>exact .pure _ _ (h.of_den (k+1))
  |agg cs vs hl h1 hr =>
   refine .agg _ vs (by simpa using hl) ?_ ?_
   ·intro i x hx
    rw[List.getElem?_map]at hx
    obtain⟨y,hy,rfl⟩:=Option.map_eq_some_iff.1 hx
    exact(den_one k y).trans (h1 i y hy)
   ·intro i x hx
    rw[List.getElem?_map]at hx
    obtain⟨y,hy,rfl⟩:=Option.map_eq_some_iff.1 hx
    exact ih y _ (hr i y hy)
  |tup cs vs hl hr =>
   refine .tup _ vs (by simpa using hl) ?_
   intro i x hx
   rw[List.getElem?_map]at hx
   obtain⟨y,hy,rfl⟩:=Option.map_eq_some_iff.1 hx
   exact ih y _ (hr i y hy)
  |ifc t x v hr=>exact .ifc t _ v (ih x v hr)
  |own T sz id i n b cap hm hb hn hc hr=>exact .own T sz id i n b cap hm hb hn hc hr
  |ownv T sz id i a hm=>exact .ownv T sz id i a hm
  |ownd T sz id i n a n' cap hm=>exact .ownd T sz id i n a n' cap hm
  |ptr sz id i off b hm hb=>exact .ptr sz id i off b hm hb
  |ptrd sz id i off a hm=>exact .ptrd sz id i off a hm
  |fn f xs ys vs us hl hk h g=>exact .fn f xs ys vs us hl hk h g
  |yld id b hm=>exact .yld id b hm
  |yldd id b hm=>exact .yldd id b hm
  |mpv id b hm=>exact .mpv id b hm
  |mpvd id b hm=>exact .mpvd id b hm
  |view T sz id i n b cap hm=>exact .view T sz id i n b cap hm
  |viewd T sz id i n a cap hm=>exact .viewd T sz id i n a cap hm
  |sown T sz id n b len cap hm hb hl hn hc hr=>exact .sown T sz id n b len cap hm hb hl hn hc hr
  |sownv T sz id n a hm hn=>exact .sownv T sz id n a hm hn
  |sownd T sz id n a n' cap hm=>exact .sownd T sz id n a n' cap hm
  |optr sz id p off b hm hb=>exact .optr sz id p off b hm hb
  |optrd sz id p off a hm=>exact .optrd sz id p off a hm
theorem Slot.data {x y d:AV} (hx:@den b1 e1 12 x=d) (hy:@den b2 e2 12 y=d) (hd:Cl d) (hu:noUps 12 y=true):Slot b1 e1 b2 e2 ids x y:=by
 subst hx
 intro m A w v h
 have h1:=@Rd.cl b1 e1 m A w _ hd v (@Rd.den_to b1 e1 m A w 12 x v h)
 have h2:=RdL.cl (b2:=b2) (e2:=e2) hd h1
 rw[←hy]at h2
 have h3:=@RdL.to_den b2 e2 _ w 12 y v hu h2
 exact @Rd.pure b2 e2 _ A w _ _ (@RdL.mono b2 e2 _ _ w w (Nat.le_refl _) (fun b _ hb=>⟨fun h=>hb (mOf_av h),rfl⟩) y v h3)
theorem Slot.own {T sz id id' i n:Nat} (h:ids[id']?=some (some id)):Slot b1 e1 b2 e2 ids (.own T sz id i n) (.own T sz id' i n):=by
 intro m A w v hr
 have hm:=mOf_some (m:=m) h
 cases hr with
 |pure _ _ h=>cases h
 |own _ _ _ _ _ b cap hm' hb hn hc hr=>exact @Rd.own b2 e2 _ A w T sz id' i n b cap (hm.trans hm') hb hn hc hr
 |ownv _ _ _ _ a hm'=>exact @Rd.ownv b2 e2 _ A w T sz id' i a (hm.trans hm')
 |ownd _ _ _ _ _ a n' cap hm'=>exact @Rd.ownd b2 e2 _ A w T sz id' i n a n' cap (hm.trans hm')
theorem Slot.ptr {sz id id' i off:Nat} (h:ids[id']?=some (some id)):Slot b1 e1 b2 e2 ids (.ptr sz id i off) (.ptr sz id' i off):=by
 intro m A w v hr
 have hm:=mOf_some (m:=m) h
 cases hr with
 |pure _ _ h=>cases h
 |ptr _ _ _ _ b hm' hb=>exact @Rd.ptr b2 e2 _ A w sz id' i off b (hm.trans hm') hb
 |ptrd _ _ _ _ a hm'=>exact @Rd.ptrd b2 e2 _ A w sz id' i off a (hm.trans hm')
theorem Slot.sown {T sz id id':Nat} {n n':Poly} (h:ids[id']?=some (some id)) (hn:pev (@Ev.rho b1 e1) n=pev (@Ev.rho b2 e2) n'):Slot b1 e1 b2 e2 ids (.sown T sz id n) (.sown T sz id' n'):=by
 intro m A w v hr
 have hm:=mOf_some (m:=m) h
 cases hr with
 |pure _ _ h=>cases h
 |sown _ _ _ _ b len cap hm' hb hl hn' hc hr=>exact @Rd.sown b2 e2 _ A w T sz id' n' b len cap (hm.trans hm') hb (hn▸hl) hn' hc hr
 |sownv _ _ _ _ a hm' h0=>exact @Rd.sownv b2 e2 _ A w T sz id' n' a (hm.trans hm') (hn▸h0)
 |sownd _ _ _ _ a n0 cap hm'=>exact @Rd.sownd b2 e2 _ A w T sz id' n' a n0 cap (hm.trans hm')
theorem Slot.own_sown {T sz id id' n:Nat} {n':Poly} (h:ids[id']?=some (some id)) (hn:(n:Int)=pev (@Ev.rho b2 e2) n'):Slot b1 e1 b2 e2 ids (.own T sz id 0 n) (.sown T sz id' n'):=by
 intro m A w v hr
 have hm:=mOf_some (m:=m) h
 cases hr with
 |pure _ _ h=>cases h
 |own _ _ _ _ _ b cap hm' hb hn' hc hr =>
  rw[Nat.zero_mul]
  exact @Rd.sown b2 e2 _ A w T sz id' n' b n cap (hm.trans hm') hb hn.symm hn' hc (by rw[←hr,Nat.zero_add])
 |ownv _ _ _ _ a hm'=>exact @Rd.sownv b2 e2 _ A w T sz id' n' a (hm.trans hm') (by rw[←hn];rfl)
 |ownd _ _ _ _ _ a n0 cap hm'=>exact @Rd.sownd b2 e2 _ A w T sz id' n' a n0 cap (hm.trans hm')
theorem Slot.optr {sz id id' off:Nat} {p p':Poly} (h:ids[id']?=some (some id)) (hn:pev (@Ev.rho b1 e1) p=pev (@Ev.rho b2 e2) p'):Slot b1 e1 b2 e2 ids (.optr sz id p off) (.optr sz id' p' off):=by
 intro m A w v hr
 have hm:=mOf_some (m:=m) h
 cases hr with
 |pure _ _ h=>cases h
 |optr _ _ _ _ b hm' hb=>rw[hn];exact @Rd.optr b2 e2 _ A w sz id' p' off b (hm.trans hm') hb
 |optrd _ _ _ _ a hm'=>exact @Rd.optrd b2 e2 _ A w sz id' p' off a (hm.trans hm')
inductive SlotL (b1:Bk) (e1:@Ev b1) (b2:Bk) (e2:@Ev b2) (ids:Ids):List AV→List AV→Prop
 |nil:SlotL b1 e1 b2 e2 ids [] []
 |cons {x y:AV} {l l':List AV} (h:Slot b1 e1 b2 e2 ids x y) (hl:SlotL b1 e1 b2 e2 ids l l'):SlotL b1 e1 b2 e2 ids (x::l) (y::l')
theorem SlotL.get {l l':List AV} (h:SlotL b1 e1 b2 e2 ids l l'):l'.length=l.length∧∀(i:Nat) (y:AV),l'[i]?=some y→∃x,l[i]?=some x∧Slot b1 e1 b2 e2 ids x y:=by
 induction h with
 |nil=>exact⟨rfl,fun i y h=>by simp at h⟩
 |cons h hl ih =>
  refine⟨by simp[ih.1],?_⟩
  intro i z hz
  cases i with
  |zero=>cases hz;exact⟨_,rfl,h⟩
  |succ i =>
   obtain⟨x,h1,h2⟩:=ih.2 i z (by simpa using hz)
   exact⟨x,by simpa using h1,h2⟩
theorem SlotL.append {l1 l1' l2 l2':List AV} (h:SlotL b1 e1 b2 e2 ids l1 l1') (g:SlotL b1 e1 b2 e2 ids l2 l2'):SlotL b1 e1 b2 e2 ids (l1++l2) (l1'++l2'):=by
 induction h with
 |nil=>exact g
 |cons h hl ih=>exact .cons h ih
theorem Slot.agg {cs cs':List AV} (h:SlotL b1 e1 b2 e2 ids cs cs') (h1:cs'.all (fun x=>x.one)=true):Slot b1 e1 b2 e2 ids (.agg cs) (.agg cs'):=by
 intro m A w v hr
 obtain⟨hl,hs⟩:=h.get
 obtain⟨vs,rfl,hv,hc⟩:=@Rd.agg_inv b1 e1 m A w cs v hr
 refine @Rd.agg b2 e2 _ A w cs' vs (by rw[hv,hl]) ?_ ?_
 ·intro i y hy
  exact List.all_eq_true.1 h1 y (List.mem_of_getElem? hy)
 ·intro i y hy
  obtain⟨x,hx,hs⟩:=hs i y hy
  exact hs m A w _ (hc i x hx).2
def BlkS (b1:Bk) (e1:@Ev b1) (b2:Bk) (e2:@Ev b2) (ids:Ids) (h1:AH) (o:Option Nat) (B:Blk):Prop:=@ScOk b2 e2 B∧match o with
 |none=>∃T sz,@Blk.els b2 e2 B=some (T,sz,[])
 |some i=>∃T sz els1 els2,@Blk.els b1 e1 (h1 i)=some (T,sz,els1)∧@Blk.els b2 e2 B=some (T,sz,els2)∧els2.length=els1.length∧(∀(i j:Nat) (y:AV),at2 els2 i j=some y→∃x,at2 els1 i j=some x∧x.one=y.one∧Slot b1 e1 b2 e2 ids x y)∧((∀e∈els1,e.length=sz)→∀e∈els2,e.length=sz)
inductive BlkL (b1:Bk) (e1:@Ev b1) (b2:Bk) (e2:@Ev b2) (ids:Ids) (h1:AH):Ids→List Blk→Prop
 |nil:BlkL b1 e1 b2 e2 ids h1 [] []
 |cons {o:Option Nat} {B:Blk} {l:Ids} {bs:List Blk} (h:BlkS b1 e1 b2 e2 ids h1 o B) (hl:BlkL b1 e1 b2 e2 ids h1 l bs):BlkL b1 e1 b2 e2 ids h1 (o::l) (B::bs)
theorem BlkL.get {h1:AH} {l:Ids} {bs:List Blk} (h:BlkL b1 e1 b2 e2 ids h1 l bs):l.length=bs.length∧∀(k:Nat) (o:Option Nat),l[k]?=some o→∃B,bs[k]?=some B∧BlkS b1 e1 b2 e2 ids h1 o B:=by
 induction h with
 |nil=>exact⟨rfl,fun i y h=>by simp at h⟩
 |cons h hl ih =>
  refine⟨by simp[ih.1],?_⟩
  intro i z hz
  cases i with
  |zero=>cases hz;exact⟨_,rfl,h⟩
  |succ i =>
   obtain⟨x,h1,h2⟩:=ih.2 i z (by simpa using hz)
   exact⟨x,by simpa using h1,h2⟩
def hOf (bs:List Blk):AH:=fun k=>bs.getD k .no
theorem Pre.to {A:Nat→Prop} {w0:World} {a0:Act} {m:Nat→St} {w:World} {a:Act} {f1 f2:List AV} {h1:AH} {bs:List Blk} (pr:@Pre b1 e1 A w0 a0 m w a f1 h1) (hf:SlotL b1 e1 b2 e2 ids f1 f2) (hB:BlkL b1 e1 b2 e2 ids h1 ids bs) (nd:∀(i j k:Nat),ids[i]?=some (some k)→ids[j]?=some (some k)→i=j) (hg:b2.glob=[]:=by rfl) :
  @Pre b2 e2 A w0 a0 (mOf m ids) w a f2 (hOf bs):=by
 obtain⟨hl,hs⟩:=hf.get
 obtain⟨bl,bg⟩:=hB.get
 have at_:∀k B,hOf bs k=B→(B=.no∧mOf m ids k=.no)∨∃o,ids[k]?=some o∧BlkS b1 e1 b2 e2 ids h1 o B:=by
  intro k B hk
  cases ho:ids[k]? with
  |none =>
   refine .inl ⟨?_,by unfold mOf;rw[ho]⟩
   have hlt:bs.length≤k:=by rw[←bl];exact List.getElem?_eq_none_iff.1 ho
   rw[←hk];unfold hOf
   rw[List.getD,List.getElem?_eq_none hlt];rfl
  |some o =>
   obtain⟨B',h2,h3⟩:=bg k o ho
   refine .inr ⟨o,rfl,?_⟩
   have:hOf bs k=B':=by unfold hOf;rw[List.getD,h2];rfl
   rw[←hk,this];exact h3
 have elsOf:∀o B,BlkS b1 e1 b2 e2 ids h1 o B→∃t,@Blk.els b2 e2 B=some t:=by
  rintro(_|i) B ⟨-,h⟩
  ·obtain⟨T,sz,h⟩:=h;exact⟨_,h⟩
  ·obtain⟨T,sz,e1,e2,-,h,-⟩:=h;exact⟨_,h⟩
 obtain⟨E,⟨Hout,Hold,Hno,Hdead,Harrs,Hinj,Hglob,Hoth,Hscs⟩,⟨Fsize,Frd,Fdef⟩,N⟩:=pr
 refine⟨?_,⟨?_,Hold,?_,?_,?_,?_,?_,?_,?_⟩,⟨?_,?_,?_⟩,N⟩
 ·refine⟨E.os,E.tape,E.output,E.size,fun _ _ h=>(by cases h),fun _ h=>(by cases h),fun _ h=>(by cases h),?_,fun _ _ h=>(by cases h)⟩
  intro b hb hu
  obtain⟨k1,k2⟩:=E.un b hb hu
  refine⟨?_,k2⟩
  intro k hk
  obtain⟨i,-,h⟩:=mOf_at hk
  exact k1 i h
 ·intro k b hk
  obtain⟨i,-,h⟩:=mOf_at hk
  exact Hout i b h
 ·intro k hk
  rcases at_ k _ hk with⟨-,h⟩|⟨o,-,h⟩
  ·exact h
  ·obtain⟨t,ht⟩:=elsOf o _ h
   cases ht
 ·intro k hk
  rcases at_ k _ hk with⟨h,-⟩|⟨o,-,h⟩
  ·cases h
  ·obtain⟨t,ht⟩:=elsOf o _ h
   cases ht
 ·intro k T sz els hk
  rcases at_ k _ rfl with⟨h,-⟩|⟨o,ho,h⟩
  ·rw[h]at hk;cases hk
  ·cases o with
   |none =>
    obtain⟨-,T',sz',h⟩:=h
    rw[hk]at h
    cases h
    exact .inl ⟨mOf_none ho,rfl⟩
   |some i =>
    obtain⟨-,T',sz',els1,els2,k1,k2,k3,k4,k5⟩:=h
    rw[hk]at k2
    cases k2
    rw[mOf_some ho]
    rcases Harrs i T sz els1 k1 with⟨g1,g2⟩|⟨b,cs,g1,g2,g3,g4,g5⟩
    ·refine .inl ⟨g1,?_⟩
     rw[g2]at k3
     exact List.length_eq_zero_iff.1 k3
    ·refine .inr ⟨b,cs,g1,g2,by rw[k3];exact g3,k5 g4,?_⟩
     intro i' j y hy
     obtain⟨x,q1,q2,q3⟩:=k4 i' j y hy
     obtain⟨r1,r2⟩:=g5 _ _ _ q1
     exact⟨by rw[←q2];exact r1,q3 m A w _ r2⟩
 ·intro i j b hi hj
  obtain⟨i',c1,c2⟩:=mOf_at hi
  obtain⟨j',c3,c4⟩:=mOf_at hj
  have:=Hinj i' j' b c2 c4
  subst this
  exact nd i j i' c1 c3
 ·exact @GOk.none b2 A w hg
 ·intro k B hk hB'
  rcases at_ k B hk with⟨h,-⟩|⟨o,-,h⟩
  ·subst h;exact absurd hB' (by simp[Blk.other])
  ·obtain⟨t,ht⟩:=elsOf o _ h
   rw[@Blk.other_els b2 e2 B hB']at ht
   cases ht
 ·intro k
  rcases at_ k _ rfl with⟨h,-⟩|⟨o,-,h⟩
  ·rw[h];trivial
  ·exact h.1
 ·rw[Fsize,hl]
 ·intro i y hy
  obtain⟨x,hx,h⟩:=hs i y hy
  exact h m A w _ (Frd i x hx)
 ·obtain⟨Ds,d1,d2,d3⟩:=Fdef
  refine⟨Ds,d1,d2,fun D hD=>⟨(d3 D hD).1,?_⟩⟩
  intro k hk
  obtain⟨i,-,h⟩:=mOf_at hk
  exact(d3 D hD).2 i h
end
section
variable {P:Program}
def Fin (P:Program) (fn:Func) (A:Nat→Prop) (w0:World) (a0:Act) (r:AV):Post:=fun e a w=>(e=.normal∨e=.ret)∧∃(b:Bk) (ev:@Ev b) (m:Nat→St) (f:List AV) (h:AH) (x y:AV) (js:List Nat),@Pre b ev A w0 a0 m w a f h∧resultsA P fn f h=some x∧frz h 16 x=some (y,js)∧@den b ev 12 y=r
theorem Sat.fin [b:Bk] [ev:Ev] {fn:Func} {A:Nat→Prop} {w0:World} {a0:Act} {r x y:AV} {js:List Nat} {e:Exit} {f:List AV} {h:AH} (he:e=.normal∨e=.ret) (hx:resultsA P fn f h=some x) (hy:frz h 16 x=some (y,js)) (hr:den 12 y=r):Sat A w0 a0 e (Fin P fn A w0 a0 r) f h :=
 fun m w a pr=>⟨he,b,ev,m,f,h,x,y,js,pr,hx,hy,hr⟩
theorem CK.of_body {F:FuncId} {fn:Func} {c:Code} {as:List AV} {r:AV} (hf:P.funcs[F]?=some fn) (hb:fn.body=some c) (ca:∀x∈as,Cl x) (cr:Cl r)
  (k:∀(A:Nat→Prop) (w0:World) (a0:Act),@AW bk0 ev0 P A w0 a0 c (Fin P fn A w0 a0 r) (as++List.replicate (fn.ntmps-as.length) .undef) (fun _=>.no)):CK P F as r:=by
 refine⟨ca,cr,?_⟩
 intro A w vs hA hG hl hv
 have FR0:@FRel bk0 ev0 (fun _=>.no) A w (as++List.replicate (fn.ntmps-as.length) .undef) { tmps:=vs++Array.replicate (fn.ntmps-vs.size) Go.undef,defers:=[] }:=by
  refine @FRel.mk bk0 ev0 _ _ _ _ _ (by simp[hl]) ?_ (Marks.nil _ _)
  intro i x hx
  rcases Nat.lt_or_ge i as.length with h|h
  ·rw[List.getElem?_append_left h]at hx
   have h2:=hv i x hx
   have hlt:i<vs.size:=by omega
   have e1:(vs++Array.replicate (fn.ntmps-vs.size) Go.undef).getD i Go.undef=vs.getD i Go.undef:=by simp[Array.getElem?_append,hlt]
   rw[show({ tmps:=vs++Array.replicate (fn.ntmps-vs.size) Go.undef,defers:=[] }:Act).tmps.getD i Go.undef=vs.getD i Go.undef from e1]
   exact @Rd.pure bk0 ev0 _ A w x _ (@RdL.mono bk0 ev0 A _ w w (Nat.le_refl _) (fun b _ hb=>⟨fun h=>h.elim hb (fun⟨_,h⟩=>by cases h),rfl⟩) x _ h2)
  ·rw[List.getElem?_append_right h,List.getElem?_replicate]at hx
   split at hx
   ·cases hx
    have hge:¬ i<vs.size:=by omega
    have:(vs++Array.replicate (fn.ntmps-vs.size) Go.undef).getD i Go.undef=Go.undef:=by
     simp[Array.getElem?_append,hge,Array.getElem?_replicate]
     split<;>rfl
    rw[show({ tmps:=vs++Array.replicate (fn.ntmps-vs.size) Go.undef,defers:=[] }:Act).tmps.getD i Go.undef=Go.undef from this]
    exact @Rd.pure bk0 ev0 _ A w _ _ (@RdL.undef bk0 ev0 _ w)
   ·cases hx
 have pr0:@Pre bk0 ev0 A w { tmps:=vs++Array.replicate (fn.ntmps-vs.size) Go.undef,defers:=[] } (fun _=>.no) w { tmps:=vs++Array.replicate (fn.ntmps-vs.size) Go.undef,defers:=[] } (as++List.replicate (fn.ntmps-as.length) .undef) (fun _=>.no) :=
  @Pre.mk bk0 ev0 A w _ _ w _ _ _ (@Ext.refl bk0 ev0 _ w) (@HRel.none bk0 ev0 A w hA (fun t h=>absurd h List.not_mem_nil)) FR0 (NewM.refl _ _)
 refine fw_calls (r:=none) (n:=9) |>.1 (callsIn_of_wp_marks hf hb trivial (wpIn_mono (k A w _ _ w _ pr0) ?_))
 rintro e a' w' ⟨he,b,ev,m',f',h',x,y,js,pr,hx,hy,hr⟩
 have fin:LeavesInM (fw none) 9 P fn a'.tmps (fun e w'=>∃v,e=.returned v∧@RdL bk0 ev0 A w' r v∧Below w.heap.size w w') a'.defers .returning w':=by
  obtain⟨Ds,d1,d2,d3⟩:=pr.fr.defers
  have d4:∀D∈Ds,w.heap.size≤D:=by
   intro D hD
   rcases pr.new (mark D) (by rw[d1];exact List.mem_map_of_mem hD)with h1|⟨D',h1,h2⟩
   ·exact absurd h1 List.not_mem_nil
   ·simp only[mark,Target.collected.injEq]at h1
    omega
  obtain⟨r1,r2,r3⟩:=shuts_ok Ds w' pr.rel d2 d3 d4 pr.ext
  have F'':@FRel b ev m' A (shuts w' Ds) f' { tmps:=a'.tmps,defers:=[] }:=@FRel.mk b ev _ _ _ _ _ pr.fr.size (fun i x hx=>r3 _ _ (pr.fr.rd i x hx)) (Marks.nil _ _)
  obtain⟨v,s1,s2⟩:=resultsA_ok r1 F'' hx
  rw[d1]
  refine leaves_marks Ds w' d2 (fun D hD=>(d3 D hD).1) ⟨v,s1,v,rfl,?_,@Ext.below b ev _ _ _ _ r2 fun id b h=>by cases h⟩
  have h1:=frz_ok r1 js hy (fun id h=>h) s2
  have h2:=@RdL.of_den b ev _ _ 12 y v h1
  rw[hr]at h2
  have h3:=RdL.cl (b2:=bk0) (e2:=ev0) cr h2
  exact @RdL.mono bk0 ev0 _ _ _ _ (Nat.le_refl _) (fun c _ hc=>⟨fun h=>hc (.inl h),rfl⟩) _ _ h3
 rcases he with rfl|rfl
 ·exact fin
 ·exact fin
end
end Go.Proofs.Ytjccjmmbebiegaa.Mc
set_option linter.unusedVariables false
set_option linter.unusedSimpArgs false
namespace Go.Proofs.Ytjccjmmbebiegaa.Mc
open Go.RowKit
def oStop (o:Option (RT Out)):Bool:=match o with|some r=>(match r.a with | .stop ..=>true|_=>false)|none=>false
def oCode (o:Option (RT Out)):Code:=match o with|some r=>(match r.a with | .stop c _ _=>c|_=>.skip)|none=>.skip
def oK (o:Option (RT Out)):List KI:=match o with|some r=>(match r.a with | .stop _ k _=>k|_=>[])|none=>[]
def oF (o:Option (RT Out)):Ft:=match o with|some r=>(match r.a with | .stop _ _ f=>f | .done _ f=>f)|none=>.leaf
def oT (o:Option (RT Out)):Tr:=match o with|some r=>r.t|none=>.leaf
def oDone (o:Option (RT Out)):Option Nat:=match o with|some r=>(match r.a with | .done .normal _=>some 0 | .done .ret _=>some 1 | .done (.exit i) _=>some (i+2)|_=>none)|none=>none
def xOf:Nat→AX
 |0=>.normal
 |1=>.ret
 |k+2=>.exit k
theorem oStop_ok {o:Option (RT Out)} (h:oStop o=true):∃r,o=some r∧r.a=.stop (oCode o) (oK o) (oF o)∧r.t=oT o:=by
 unfold oStop at h
 cases o with
 |none=>cases h
 |some r =>
  simp only at h
  cases hr:r.a with
  |stop c k f=>exact⟨r,rfl,by simp only[oCode,oK,oF,hr],rfl⟩
  |done x f=>rw[hr]at h;cases h
theorem oDone_ok {o:Option (RT Out)} {x:Nat} (h:oDone o=some x):∃r,o=some r∧r.a=.done (xOf x) (oF o)∧r.t=oT o:=by
 unfold oDone at h
 cases o with
 |none=>cases h
 |some r =>
  simp only at h
  cases hr:r.a with
  |stop c k f=>rw[hr]at h;cases h
  |done y f =>
   rw[hr]at h
   cases y<;>(simp only at h;cases h;exact⟨r,rfl,by simp only[oF,hr];rfl,rfl⟩)
theorem fr_eq {l l0:List AV} {ft:Ft} [Bk] [Ev] (h:FR l ft) (hl:Ft.list ft 4096 0=some l0):l=l0:=by
 have:=h.list 4096 0 l0 hl
 rw[this];rfl
section
variable {P:Program}
section
variable [Bk] [Ev]
theorem AW.stops (hX:ExtOk P) {L d k N n:Nat} {A:Nat→Prop} {w0:World} {a0:Act} {c:Code} {Φ:Post} {f l0:List AV} {t:Tr} (o:Option (RT Out)) (ho:arunT P (acallN P L d) L k c (Ft.of N f) t n=o) (hs:oStop o=true) (hl:Ft.list (oF o) 4096 0=some l0) (hN:f.length≤N)
  (kk:AW P A w0 a0 (.loop (oCode o)) (KS P (oK o) Φ) l0 (oT o).get):AW P A w0 a0 c Φ f t.get:=by
 obtain⟨r,h1,h2,h3⟩:=oStop_ok hs
 refine arunT_ok hX k c Φ (Ft.of N f) t n r (ho.trans h1) ?_ f (fun k=>Ft.get_of N f k hN)
 rw[h2,h3]
 intro l hfr
 rw[fr_eq hfr hl]
 exact kk
theorem AW.ends (hX:ExtOk P) {L d k N n x:Nat} {A:Nat→Prop} {w0:World} {a0:Act} {c:Code} {Φ:Post} {f l0:List AV} {t:Tr} (o:Option (RT Out)) (ho:arunT P (acallN P L d) L k c (Ft.of N f) t n=o) (hs:oDone o=some x) (hl:Ft.list (oF o) 4096 0=some l0) (hN:f.length≤N)
  (kk:Sat A w0 a0 (xOf x).to Φ l0 (oT o).get):AW P A w0 a0 c Φ f t.get:=by
 obtain⟨r,h1,h2,h3⟩:=oDone_ok hs
 refine arunT_ok hX k c Φ (Ft.of N f) t n r (ho.trans h1) ?_ f (fun k=>Ft.get_of N f k hN)
 rw[h2,h3]
 intro l hfr
 rw[fr_eq hfr hl]
 exact kk
theorem Sat.stops (hX:ExtOk P) {L d N n:Nat} {x:AX} {k:List KI} {A:Nat→Prop} {w0:World} {a0:Act} {Φ:Post} {f l0:List AV} {t:Tr} (o:Option (RT Out)) (ho:aresT P (acallN P L d) L k x (Ft.of N f) t n=o) (hs:oStop o=true) (hl:Ft.list (oF o) 4096 0=some l0) (hN:f.length≤N)
  (kk:AW P A w0 a0 (.loop (oCode o)) (KS P (oK o) Φ) l0 (oT o).get):Sat A w0 a0 x.to (KS P k Φ) f t.get:=by
 obtain⟨r,h1,h2,h3⟩:=oStop_ok hs
 refine aresT_ok hX k x (Ft.of N f) t n r (ho.trans h1) ?_ f (fun k=>Ft.get_of N f k hN)
 rw[h2,h3]
 intro l hfr
 rw[fr_eq hfr hl]
 exact kk
theorem Sat.ends (hX:ExtOk P) {L d N n y:Nat} {x:AX} {k:List KI} {A:Nat→Prop} {w0:World} {a0:Act} {Φ:Post} {f l0:List AV} {t:Tr} (o:Option (RT Out)) (ho:aresT P (acallN P L d) L k x (Ft.of N f) t n=o) (hs:oDone o=some y) (hl:Ft.list (oF o) 4096 0=some l0) (hN:f.length≤N)
  (kk:Sat A w0 a0 (xOf y).to Φ l0 (oT o).get):Sat A w0 a0 x.to (KS P k Φ) f t.get:=by
 obtain⟨r,h1,h2,h3⟩:=oDone_ok hs
 refine aresT_ok hX k x (Ft.of N f) t n r (ho.trans h1) ?_ f (fun k=>Ft.get_of N f k hN)
 rw[h2,h3]
 intro l hfr
 rw[fr_eq hfr hl]
 exact kk
end
def slotB (ids:Ids):Nat→AV→AV→Bool
 |0,_,_=>false
 |k+1,x,y=>match y with
  | .junk=>true
  | .own T sz id i n=>(match x with | .own T' sz' id' i' n'=>decide (T'=T∧sz'=sz∧i'=i∧n'=n)&&decide (ids[id]?=some (some id'))|_=>false)
  | .ptr sz id i off=>(match x with | .ptr sz' id' i' off'=>decide (sz'=sz∧i'=i∧off'=off)&&decide (ids[id]?=some (some id'))|_=>false)
  | .sown T sz id n=>(match x with | .sown T' sz' id' n'=>decide (T'=T∧sz'=sz∧n'=n)&&decide (ids[id]?=some (some id'))|_=>false)
  | .optr sz id p off=>(match x with | .optr sz' id' p' off'=>decide (sz'=sz∧p'=p∧off'=off)&&decide (ids[id]?=some (some id'))|_=>false)
  | .agg cs=>(match x with | .agg cs'=>eqL (slotB ids k) cs' cs&&cs.all (fun x=>x.one)|_=>false)
  |y=>avEq 16 x y
def plainB:Nat→AV→Bool
 |0,_=>false
 |k+1,x=>match x with
  | .c _ | .undef | .emp | .e _ | .o _ | .any | .seq .. | .row ..=>true
  | .agg l=>l.all (plainB k)
  | .tup l=>l.all (plainB k)
  | .lit ..=>true
  |_=>false
theorem Rd.plain [Bk] [Ev] {m:Nat→St} {A:Nat→Prop} {w:World}:∀{k:Nat} {x:AV} {v:Value},plainB k x=true→Rd m A w x v→RdL (Av m A) w x v
 |0,x,v,h,_=>by cases h
 |k+1,x,v,h,hr=>by
  cases hr with
  |pure _ _ h=>exact h
  |agg cs vs hl h1 hr=>exact .agg cs vs hl h1 fun i x hx=>Rd.plain (List.all_eq_true.1 h x (List.mem_of_getElem? hx)) (hr i x hx)
  |tup cs vs hl hr=>exact .tup cs vs hl fun i x hx=>Rd.plain (List.all_eq_true.1 h x (List.mem_of_getElem? hx)) (hr i x hx)
  |_=>cases h
theorem avEq_plain:∀{k:Nat} {x y:AV},avEq k x y=true→plainB k y=true
 |0,x,y,h=>by cases h
 |k+1,x,y,h=>by
  have ihL:∀(a b:List AV),eqL (avEq k) a b=true→b.all (plainB k)=true:=by
   intro a
   induction a with
   |nil=>intro b h;cases b with
    |nil=>rfl
    |cons y b=>cases h
   |cons x a ih=>intro b h;cases b with
    |nil=>cases h
    |cons y b =>
     unfold eqL at h
     rw[Bool.and_eq_true]at h
     rw[List.all_cons,avEq_plain h.1,ih b h.2];rfl
  unfold avEq at h
  split at h<;>first|rfl|exact ihL _ _ h|cases h
theorem Slot.same [b:Bk] [e:Ev] {ids:Ids} {x:AV} {k:Nat} (hp:plainB k x=true):Slot b e b e ids x x:=fun m A w v h =>
 .pure _ _ ((h.plain hp).mono (Nat.le_refl _) fun c _ hc=>⟨fun h=>hc (mOf_av h),rfl⟩)
theorem slotB_ok [b:Bk] [e:Ev] {ids:Ids}:∀{k:Nat} {x y:AV},slotB ids k x y=true→Slot b e b e ids x y
 |0,x,y,h=>by cases h
 |k+1,x,y,h=>by
  unfold slotB at h
  split at h
  ·exact Slot.junk
  ·split at h
   ·rw[Bool.and_eq_true,decide_eq_true_eq,decide_eq_true_eq]at h
    obtain⟨⟨rfl,rfl,rfl,rfl⟩,h⟩:=h
    exact Slot.own h
   ·cases h
  ·split at h
   ·rw[Bool.and_eq_true,decide_eq_true_eq,decide_eq_true_eq]at h
    obtain⟨⟨rfl,rfl,rfl⟩,h⟩:=h
    exact Slot.ptr h
   ·cases h
  ·split at h
   ·rw[Bool.and_eq_true,decide_eq_true_eq,decide_eq_true_eq]at h
    obtain⟨⟨rfl,rfl,rfl⟩,h⟩:=h
    exact Slot.sown h rfl
   ·cases h
  ·split at h
   ·rw[Bool.and_eq_true,decide_eq_true_eq,decide_eq_true_eq]at h
    obtain⟨⟨rfl,rfl,rfl⟩,h⟩:=h
    exact Slot.optr h rfl
   ·cases h
  ·split at h
   ·rename_i cs cs'
    rw[Bool.and_eq_true]at h
    refine Slot.agg ?_ h.2
    have:∀(a c:List AV),eqL (slotB ids k) a c=true→SlotL b e b e ids a c:=by
     intro a
     induction a with
     |nil=>intro c h;cases c with
      |nil=>exact .nil
      |cons y c=>cases h
     |cons x a ih=>intro c h;cases c with
      |nil=>cases h
      |cons y c =>
       unfold eqL at h
       rw[Bool.and_eq_true]at h
       exact .cons (slotB_ok h.1) (ih c h.2)
    exact this _ _ h.1
   ·cases h
  ·have e1:=avEq_ok h
   have e2:=avEq_plain h
   rw[e1]
   exact Slot.same e2
theorem slotsB_ok [b:Bk] [e:Ev] {ids:Ids} {k:Nat}:∀{l l':List AV},eqL (slotB ids k) l l'=true→SlotL b e b e ids l l'
 |[],[],_=>.nil
 |[],_::_,h=>by cases h
 |_::_,[],h=>by cases h
 |x::l,y::m,h=>by
  unfold eqL at h
  rw[Bool.and_eq_true]at h
  exact .cons (slotB_ok h.1) (slotsB_ok h.2)
def blkB (ids:Ids) (h:AH) (o:Option Nat) (B:Blk):Bool:=match o with
 |none=>false
 |some i=>match B with
  | .cells T sz els=>(match h i with | .cells T' sz' els'=>decide (T'=T∧sz'=sz)&&(eqLL (slotB ids 16) els' els&&els.all (·.all fun x=>x.one))|_=>false)
  | .sc T sz base ups tail n=>(match h i with | .sc T' sz' base' ups' tail' n'=>decide (T'=T∧sz'=sz∧n'=n)&&(avEq 16 (.seq sz' base' ups' tail') (.seq sz base ups tail)&&(ups.all (·.2.all (plainB 16))&&tail.all (·.all (plainB 16))))|_=>false)
  |_=>false
def blksB (ids:Ids) (h:AH):Ids→List Blk→Bool
 |[],[]=>true
 |o::l,B::bs=>blkB ids h o B&&blksB ids h l bs
 |_,_=>false
theorem rowsOf_mem [Bk] [Ev] {base:Nat} {ups:List (Poly×List AV)} {tail:List (List AV)} {e:List AV} (h:e∈rowsOf base ups tail):e∈Ev.seq base∨(∃q∈ups,e=q.2)∨e∈tail:=by
 have key:∀(ups:List (Poly×List AV)) (l:List (List AV)),e∈ups.foldl (fun l q=>l.set (pev Ev.rho q.1).toNat q.2) l→e∈l∨∃q∈ups,e=q.2:=by
  intro ups
  induction ups with
  |nil=>intro l h;exact .inl h
  |cons q ups ih =>
   intro l h
   rcases ih _ h with h|⟨q',h1,h2⟩
   ·rcases List.mem_or_eq_of_mem_set h with h|h
    ·exact .inl h
    ·exact .inr ⟨q,List.mem_cons_self,h⟩
   ·exact .inr ⟨q',List.mem_cons_of_mem _ h1,h2⟩
 unfold rowsOf at h
 rcases List.mem_append.1 h with h|h
 ·rcases key _ _ h with h|h
  ·exact .inl h
  ·exact .inr (.inl h)
 ·exact .inr (.inr h)
theorem Slot.cl [b:Bk] [e:Ev] {ids:Ids} {x:AV} (hx:Cl x):Slot b e b e ids x x:=fun m A w v h =>
 .pure _ _ ((h.cl hx).mono (Nat.le_refl _) fun c _ hc=>⟨fun h=>hc (mOf_av h),rfl⟩)
theorem eqLL_at {r:AV→AV→Bool} {a c:List (List AV)} (h:eqLL r a c=true):c.length=a.length∧∀(i j:Nat) (y:AV),at2 c i j=some y→∃x,at2 a i j=some x∧r x y=true:=by
 obtain⟨h1,h2⟩:=eqLL_get h
 refine⟨h1.symm,?_⟩
 intro i j y hy
 unfold at2 at hy
 cases hc:c[i]? with
 |none=>rw[hc]at hy;cases hy
 |some e =>
  rw[hc]at hy
  obtain⟨e',g1,g2⟩:=h2 i e hc
  obtain⟨-,l2⟩:=eqL_get g2
  obtain⟨x,q1,q2⟩:=l2 j y hy
  exact⟨x,by unfold at2;rw[g1];exact q1,q2⟩
theorem eqLL_sz {r:AV→AV→Bool} {a c:List (List AV)} {sz:Nat} (h:eqLL r a c=true) (ha:∀e∈a,e.length=sz):∀e∈c,e.length=sz:=by
 intro e he
 obtain⟨i,hi⟩:=List.mem_iff_getElem?.1 he
 obtain⟨e',g1,g2⟩:=(eqLL_get h).2 i e hi
 rw[←(eqL_get g2).1]
 exact ha e' (List.mem_of_getElem? g1)
theorem slotB_one {ids:Ids} {k:Nat} {x y:AV} (h:slotB ids k x y=true) (hy:y.one=true):x.one=true:=by
 cases k with
 |zero=>cases h
 |succ k =>
  unfold slotB at h
  split at h
  ·simp[AV.one]at hy
  ·split at h
   ·rfl
   ·cases h
  ·split at h
   ·rfl
   ·cases h
  ·split at h
   ·rfl
   ·cases h
  ·split at h
   ·rfl
   ·cases h
  ·simp[AV.one]at hy
  ·rw[avEq_ok h];exact hy
theorem blkB_ok [b:Bk] [e:Ev] {ids:Ids} {h:AH} (hs:∀i,ScOk (h i)) {o:Option Nat} {B:Blk} (hb:blkB ids h o B=true):BlkS b e b e ids h o B:=by
 unfold blkB at hb
 cases o with
 |none=>cases hb
 |some i =>
  simp only at hb
  split at hb
  ·rename_i T sz els
   split at hb
   ·rename_i T' sz' els' hi
    rw[Bool.and_eq_true,Bool.and_eq_true,decide_eq_true_eq]at hb
    obtain⟨⟨rfl,rfl⟩,h2,h3⟩:=hb
    obtain⟨l1,l2⟩:=eqLL_at h2
    refine⟨trivial,T',sz',els',els,by rw[hi];rfl,rfl,l1,?_,eqLL_sz h2⟩
    intro i j y hy
    obtain⟨x,q1,q2⟩:=l2 i j y hy
    obtain⟨r,hr,hyr⟩:=at2_mem hy
    have hy1:y.one=true:=List.all_eq_true.1 (List.all_eq_true.1 h3 r hr) y hyr
    exact⟨x,q1,by rw[hy1];exact slotB_one q2 hy1,slotB_ok q2⟩
   ·cases hb
  ·rename_i T sz base ups tail n
   split at hb
   ·rename_i T' sz' base' ups' tail' n' hi
    rw[Bool.and_eq_true,Bool.and_eq_true,Bool.and_eq_true,decide_eq_true_eq]at hb
    obtain⟨⟨rfl,rfl,rfl⟩,h2,h3,h4⟩:=hb
    have h2:=avEq_ok h2
    cases h2
    have hsc:=hs i
    rw[hi]at hsc
    refine⟨hsc,T',sz',rowsOf base ups tail,rowsOf base ups tail,by rw[hi];rfl,rfl,rfl,?_,fun h=>h⟩
    intro i j y hy
    refine⟨y,hy,rfl,?_⟩
    obtain⟨r,hr,hyr⟩:=at2_mem hy
    rcases rowsOf_mem hr with h|⟨q,h,rfl⟩|h
    ·exact Slot.cl (Ev.seq_cl base r h y hyr)
    ·exact Slot.same (List.all_eq_true.1 (List.all_eq_true.1 h3 q h) y hyr)
    ·exact Slot.same (List.all_eq_true.1 (List.all_eq_true.1 h4 r h) y hyr)
   ·cases hb
  ·cases hb
theorem blksB_ok [b:Bk] [e:Ev] {ids:Ids} {h:AH} (hs:∀i,ScOk (h i)):∀{l:Ids} {bs:List Blk},blksB ids h l bs=true→BlkL b e b e ids h l bs
 |[],[],_=>.nil
 |[],_::_,h=>by cases h
 |_::_,[],h=>by cases h
 |o::l,B::bs,h=>by
  unfold blksB at h
  rw[Bool.and_eq_true]at h
  exact .cons (blkB_ok hs h.1) (blksB_ok hs h.2)
def ndB (ids:Ids):Bool:=decide ids.Nodup
theorem ndB_ok {ids:Ids} (h:ndB ids=true):∀(i j k:Nat),ids[i]?=some (some k)→ids[j]?=some (some k)→i=j:=by
 intro i j k hi hj
 have hn:ids.Nodup:=of_decide_eq_true h
 have h1:=(List.getElem?_eq_some_iff.1 hi)
 have h2:=(List.getElem?_eq_some_iff.1 hj)
 obtain⟨l1,e1⟩:=h1
 obtain⟨l2,e2⟩:=h2
 have hp:=List.pairwise_iff_getElem.1 hn
 rcases Nat.lt_trichotomy i j with h|h|h
 ·exact absurd (e1.trans e2.symm) (hp i j l1 l2 h)
 ·exact h
 ·exact absurd (e2.trans e1.symm) (hp j i l2 l1 h)
theorem Pre.short [b:Bk] [e:Ev] {ids:Ids} {A:Nat→Prop} {w0:World} {a0:Act} {m:Nat→St} {w:World} {a:Act} {f1 f2:List AV} {h1:AH} {bs:List Blk} (pr:Pre A w0 a0 m w a f1 h1) (hf:eqL (slotB ids 16) f1 f2=true) (hB:blksB ids h1 ids bs=true) (nd:ndB ids=true) (hg:b.glob=[]:=by rfl) :
  Pre A w0 a0 (mOf m ids) w a f2 (hOf bs):=pr.to (slotsB_ok hf) (blksB_ok pr.rel.scs hB) (ndB_ok nd) hg
def idl (n:Nat):Ids:=(List.range n).map some
theorem idl_get {n k:Nat} (h:k<n):(idl n)[k]?=some (some k):=by unfold idl;rw[List.getElem?_map,List.getElem?_range h];rfl
section
variable {b1:Bk} {e1:@Ev b1} {b2:Bk} {e2:@Ev b2} {ids:Ids}
theorem BlkS.sc {h1:AH} {i T sz base base':Nat} {ups:List (Poly×List AV)} {tail:List (List AV)} {n n':Poly} (hi:h1 i=.sc T sz base ups tail n) (hr:@den b1 e1 12 (.seq sz base ups tail)=.lit sz (@Ev.seq b2 e2 base')) (hn:pev (@Ev.rho b2 e2) n'=((@Ev.seq b2 e2 base').length:Int)) :
  BlkS b1 e1 b2 e2 ids h1 (some i) (.sc T sz base' [] [] n'):=by
 have hrows:@rowsOf b2 e2 base' [] []=@Ev.seq b2 e2 base':=by unfold rowsOf;rw[List.append_nil];rfl
 rw[@den_seq b1 e1]at hr
 injection hr with _ hr
 refine⟨⟨by rw[hrows];exact hn,fun q hq=>absurd hq List.not_mem_nil⟩,T,sz,@rowsOf b1 e1 base ups tail,@Ev.seq b2 e2 base',by rw[hi];rfl,by simp only[Blk.els];rw[hrows],by rw[←hr,List.length_map],?_,?_⟩
 ·intro i j y hy
  have hy0:=hy
  rw[←hr,at2_map]at hy
  obtain⟨x,hx,rfl⟩:=Option.map_eq_some_iff.1 hy
  refine⟨x,hx,(@den_one b1 e1 11 x).symm,?_⟩
  obtain⟨r,h2,h3⟩:=at2_mem hy0
  have hcl:Cl (@den b1 e1 11 x):=@Ev.seq_cl b2 e2 base' r h2 _ h3
  intro m A w v h
  have k1:=@Rd.cl b1 e1 m A w _ hcl v (@Rd.den_to b1 e1 m A w 11 x v h)
  exact @Rd.pure b2 e2 _ A w _ _ (@RdL.mono b2 e2 _ _ w w (Nat.le_refl _) (fun b _ hb=>⟨fun h=>hb (mOf_av h),rfl⟩) _ v (RdL.cl (b2:=b2) (e2:=e2) hcl k1))
 ·intro h e he
  rw[←hr]at he
  obtain⟨e',he',rfl⟩:=List.mem_map.1 he
  rw[List.length_map];exact h e' he'
theorem BlkS.virt {h1:AH} {T sz base':Nat} {n':Poly} (hr:@Ev.seq b2 e2 base'=[]) (hn:pev (@Ev.rho b2 e2) n'=0):BlkS b1 e1 b2 e2 ids h1 none (.sc T sz base' [] [] n'):=by
 have hrows:@rowsOf b2 e2 base' [] []=[]:=by unfold rowsOf;rw[List.append_nil];exact hr
 exact⟨⟨by rw[hrows];exact hn,fun q hq=>absurd hq List.not_mem_nil⟩,T,sz,by simp only[Blk.els];rw[hrows]⟩
end
def trOf (bs:List Blk):Tr:=(bs.foldl (fun(q:Tr×Nat) B=>(q.1.set q.2 B,q.2+1)) (.leaf,0)).1
theorem trOf_get [Bk] [Ev] (bs:List Blk):(trOf bs).get=hOf bs:=by
 have key:∀(bs pre:List Blk) (t:Tr),t.get=hOf pre→((bs.foldl (fun(q:Tr×Nat) B=>(q.1.set q.2 B,q.2+1)) (t,pre.length)).1).get=hOf (pre++bs):=by
  intro bs
  induction bs with
  |nil=>intro pre t h;rw[List.append_nil];exact h
  |cons B bs ih =>
   intro pre t h
   rw[List.foldl_cons]
   have:=ih (pre++[B]) (t.set pre.length B) ?_
   ·rw[List.append_assoc]at this
    simpa using this
   ·rw[Tr.get_set,h]
    funext k
    unfold bset hOf
    by_cases hk:k=pre.length
    ·subst hk;simp[List.getD]
    ·rw[if_neg hk]
     rcases Nat.lt_or_ge k pre.length with hlt|hge
     ·simp[List.getD,List.getElem?_append_left hlt]
     ·have h1:pre.length+1≤k:=by omega
      simp[List.getD,List.getElem?_eq_none hge,List.getElem?_eq_none (show(pre++[B]).length≤k by simp;omega)]
 have h0:Tr.leaf.get=hOf []:=by
  funext k
  rw[Tr.get_leaf]
  simp[hOf]
 exact key bs [] .leaf h0
def lOf (o:Option (RT Out)):List AV:=(Ft.list (oF o) 4096 0).getD []
def okB (o:Option (RT Out)):Bool:=(Ft.list (oF o) 4096 0).isSome
theorem okB_ok {o:Option (RT Out)} (h:okB o=true):Ft.list (oF o) 4096 0=some (lOf o):=by
 unfold okB at h
 unfold lOf
 cases hh:Ft.list (oF o) 4096 0 with
 |none=>rw[hh]at h;cases h
 |some l=>rfl
def stopB (o:Option (RT Out)):Bool:=oStop o&&okB o
def doneB (o:Option (RT Out)) (x:Nat):Bool:=decide (oDone o=some x)&&okB o
theorem stopB_ok {o:Option (RT Out)} (h:stopB o=true):oStop o=true∧Ft.list (oF o) 4096 0=some (lOf o):=by
 unfold stopB at h
 rw[Bool.and_eq_true]at h
 exact⟨h.1,okB_ok h.2⟩
theorem doneB_ok {o:Option (RT Out)} {x:Nat} (h:doneB o x=true):oDone o=some x∧Ft.list (oF o) 4096 0=some (lOf o):=by
 unfold doneB at h
 rw[Bool.and_eq_true,decide_eq_true_eq]at h
 exact⟨h.1,okB_ok h.2⟩
theorem run_stop (b:Bk) (ev:@Ev b) (hX:@ExtOk b ev P) {L d k N n:Nat} {A:Nat→Prop} {w0:World} {a0:Act} {c:Code} {Φ:Post} {f:List AV} {bs:List Blk} (o:Option (RT Out)) (ho:@arunT b P (@acallN b P L d) L k c (Ft.of N f) (trOf bs) n=o) (hs:stopB o=true) (hN:f.length≤N)
  {m:Nat→St} {w:World} {a:Act} (pr:@Pre b ev A w0 a0 m w a f (hOf bs)) (kk:∀m w a,@Pre b ev A w0 a0 m w a (lOf o) (oT o).get→(Code.loop (oCode o)).wpIn (fw none) 9 P (KS P (oK o) Φ) a w):c.wpIn (fw none) 9 P Φ a w:=by
 obtain⟨h1,h2⟩:=stopB_ok hs
 exact @AW.stops P b ev hX L d k N n A w0 a0 c Φ f (lOf o) (trOf bs) o ho h1 h2 hN kk m w a (by rw[@trOf_get b ev];exact pr)
theorem run_done (b:Bk) (ev:@Ev b) (hX:@ExtOk b ev P) {L d k N n x:Nat} {A:Nat→Prop} {w0:World} {a0:Act} {c:Code} {Φ:Post} {f:List AV} {bs:List Blk} (o:Option (RT Out)) (ho:@arunT b P (@acallN b P L d) L k c (Ft.of N f) (trOf bs) n=o) (hs:doneB o x=true) (hN:f.length≤N)
  {m:Nat→St} {w:World} {a:Act} (pr:@Pre b ev A w0 a0 m w a f (hOf bs)) (kk:∀m w a,@Pre b ev A w0 a0 m w a (lOf o) (oT o).get→Φ (xOf x).to a w):c.wpIn (fw none) 9 P Φ a w:=by
 obtain⟨h1,h2⟩:=doneB_ok hs
 exact @AW.ends P b ev hX L d k N n x A w0 a0 c Φ f (lOf o) (trOf bs) o ho h1 h2 hN kk m w a (by rw[@trOf_get b ev];exact pr)
theorem res_stop (b:Bk) (ev:@Ev b) (hX:@ExtOk b ev P) {L d N n:Nat} {x:AX} {k:List KI} {A:Nat→Prop} {w0:World} {a0:Act} {Φ:Post} {f:List AV} {bs:List Blk} (o:Option (RT Out)) (ho:@aresT b P (@acallN b P L d) L k x (Ft.of N f) (trOf bs) n=o) (hs:stopB o=true) (hN:f.length≤N)
  {m:Nat→St} {w:World} {a:Act} (pr:@Pre b ev A w0 a0 m w a f (hOf bs)) (kk:∀m w a,@Pre b ev A w0 a0 m w a (lOf o) (oT o).get→(Code.loop (oCode o)).wpIn (fw none) 9 P (KS P (oK o) Φ) a w):KS P k Φ x.to a w:=by
 obtain⟨h1,h2⟩:=stopB_ok hs
 exact @Sat.stops P b ev hX L d N n x k A w0 a0 Φ f (lOf o) (trOf bs) o ho h1 h2 hN kk m w a (by rw[@trOf_get b ev];exact pr)
theorem res_done (b:Bk) (ev:@Ev b) (hX:@ExtOk b ev P) {L d N n y:Nat} {x:AX} {k:List KI} {A:Nat→Prop} {w0:World} {a0:Act} {Φ:Post} {f:List AV} {bs:List Blk} (o:Option (RT Out)) (ho:@aresT b P (@acallN b P L d) L k x (Ft.of N f) (trOf bs) n=o) (hs:doneB o y=true) (hN:f.length≤N)
  {m:Nat→St} {w:World} {a:Act} (pr:@Pre b ev A w0 a0 m w a f (hOf bs)) (kk:∀m w a,@Pre b ev A w0 a0 m w a (lOf o) (oT o).get→Φ (xOf y).to a w):KS P k Φ x.to a w:=by
 obtain⟨h1,h2⟩:=doneB_ok hs
 exact @Sat.ends P b ev hX L d N n y x k A w0 a0 Φ f (lOf o) (trOf bs) o ho h1 h2 hN kk m w a (by rw[@trOf_get b ev];exact pr)
theorem xKn (b:Bk) (ev:@Ev b) (hk:@KnL b ev P b.extV) (h1:b.ext=[]:=by rfl) (h2:b.yes=[]:=by rfl):@ExtOk b ev P:=⟨by rw[h1];exact exNil b ev,by rw[h2];exact yeNil b ev,hk⟩
theorem shorter (b:Bk) (ev:@Ev b) {ids:Ids} {A:Nat→Prop} {w0:World} {a0:Act} {m:Nat→St} {w:World} {a:Act} {f1 f2:List AV} {h1:AH} {bs:List Blk} (pr:@Pre b ev A w0 a0 m w a f1 h1) (hK:(eqL (slotB ids 16) f1 f2&&blksB ids h1 ids bs)=true) (nd:ndB ids=true) (hg:b.glob=[]:=by rfl) :
  ∃m',@Pre b ev A w0 a0 m' w a f2 (hOf bs):=by
 rw[Bool.and_eq_true]at hK
 exact⟨_,pr.short hK.1 hK.2 nd hg⟩
theorem pv_get (xs:List Int) (i:Nat):pev (fun k=>xs.getD k 0) [([i],1)]=xs.getD i 0:=by simp[pev,mev]
end
end Go.Proofs.Ytjccjmmbebiegaa.Mc
set_option linter.unusedVariables false
set_option linter.unusedSimpArgs false
namespace Go.Proofs.Ytjccjmmbebiegaa.Mc
open Go.RowKit
def namB:Nat→AV→Bool
 |0,_=>false
 |k+1,x=>match x with
  | .e _=>true
  | .o _=>true
  | .c _=>true
  | .undef=>true
  | .emp=>true
  | .any=>true
  | .agg cs=>cs.all (namB k)
  | .tup cs=>cs.all (namB k)
  | .lit _ els=>els.all (·.all (namB k))
  | .seq _ _ ups tail=>ups.all (fun q=>q.2.all (namB k))&&tail.all (·.all (namB k))
  | .ifc _ v=>namB k v
  |_=>false
theorem den_cl [Bk] [Ev]:∀(k:Nat) (x:AV),namB k x=true→Cl (den k x)
 |0,x,h=>by cases h
 |k+1,x,h=>by
  have ih:∀(l:List AV),l.all (namB k)=true→∀y∈l.map (den k),Cl y:=by
   intro l hl y hy
   obtain⟨z,hz,rfl⟩:=List.mem_map.1 hy
   exact den_cl k z (List.all_eq_true.1 hl z hz)
  cases x with
  |e p=>exact .c _
  |o i=>exact .c _
  |c v=>exact .c v
  |undef=>exact .undef
  |emp=>exact .emp
  |any=>exact .any
  |agg cs=>exact .agg _ (ih cs h)
  |tup cs=>exact .tup _ (ih cs h)
  |ifc t v=>exact .ifc t _ (den_cl k v h)
  |lit sz els =>
   refine .lit sz _ ?_
   intro r hr
   obtain⟨z,hz,rfl⟩:=List.mem_map.1 hr
   exact ih z (List.all_eq_true.1 h z hz)
  |seq sz base ups tail =>
   simp only[namB,Bool.and_eq_true]at h
   refine .lit sz _ ?_
   rw[appT_eq]
   have key:∀(us:List (Poly×List AV)) (l:List (List AV)),(∀e∈l,∀x∈e,Cl x)→(∀q∈us,∀x∈q.2,Cl x)→∀e∈us.foldl (fun l q=>l.set (evP Ev.rho q.1).toNat q.2) l,∀x∈e,Cl x:=by
    intro us
    induction us with
    |nil=>intro l hl _;exact hl
    |cons q us ih2 =>
     intro l hl hq
     refine ih2 _ ?_ fun q' hq'=>hq q' (List.mem_cons_of_mem _ hq')
     intro e he
     rcases List.mem_or_eq_of_mem_set he with he|rfl
     ·exact hl e he
     ·exact hq q List.mem_cons_self
   intro r hr
   rcases List.mem_append.1 hr with hr|hr
   ·refine key _ _ (Ev.seq_cl base) ?_ r hr
    intro q hq
    obtain⟨z,hz,rfl⟩:=List.mem_map.1 hq
    exact ih z.2 (List.all_eq_true.1 h.1 z hz)
   ·obtain⟨z,hz,rfl⟩:=List.mem_map.1 hr
    exact ih z (List.all_eq_true.1 h.2 z hz)
  |_=>cases h
def slB (n:Nat) (x:AV):Bool:=match x with
 | .ptr _ id _ _=>decide (id<n)
 | .junk=>true
 |x=>namB 12 x&&noUps 12 x
def slO (n:Nat) (x:AV):Bool:=match x with
 | .ptr _ id _ _=>decide (id<n)
 | .junk=>true
 |x=>namB 12 x
theorem cl_noUps:∀(k:Nat) (x:AV),Cl x→noUps k x=true
 |0,_,_=>rfl
 |k+1,x,h=>by
  cases h with
  |c v=>rfl
  |undef=>rfl
  |emp=>rfl
  |any=>rfl
  |agg cs h=>exact List.all_eq_true.2 fun y hy=>cl_noUps k y (h y hy)
  |tup cs h=>exact List.all_eq_true.2 fun y hy=>cl_noUps k y (h y hy)
  |lit sz els h=>exact List.all_eq_true.2 fun r hr=>List.all_eq_true.2 fun y hy=>cl_noUps k y (h r hr y hy)
  |ifc t y h=>exact cl_noUps k y h
section
variable {b:Bk} {ev:@Ev b} {n:Nat}
theorem slot_out {x:AV} (h:slO n x=true):Slot b ev bk0 ev0 (idl n) x (@den b ev 12 x):=by
 have data:namB 12 x=true→Slot b ev bk0 ev0 (idl n) x (@den b ev 12 x):=fun h=>by
  have hc:=@den_cl b ev 12 x h
  exact Slot.data rfl (hc.den 12) hc (cl_noUps 12 _ hc)
 cases x with
 |ptr sz id i off=>exact Slot.ptr (idl_get (of_decide_eq_true h))
 |junk=>exact Slot.junk
 |_=>exact data h
theorem slot_in {x:AV} (h:slB n x=true):Slot bk0 ev0 b ev (idl n) (@den b ev 12 x) x:=by
 have data:(namB 12 x&&noUps 12 x)=true→Slot bk0 ev0 b ev (idl n) (@den b ev 12 x) x:=fun h=>by
  rw[Bool.and_eq_true]at h
  have hc:=@den_cl b ev 12 x h.1
  exact Slot.data (hc.den 12) rfl hc h.2
 cases x with
 |ptr sz id i off=>exact Slot.ptr (idl_get (of_decide_eq_true h))
 |junk=>exact Slot.junk
 |_=>exact data h
theorem slots_out:∀{l:List AV},l.all (slO n)=true→SlotL b ev bk0 ev0 (idl n) l (l.map (@den b ev 12))
 |[],_=>.nil
 |x::l,h=>by
  rw[List.all_cons,Bool.and_eq_true]at h
  exact .cons (slot_out h.1) (slots_out h.2)
theorem slots_in:∀{l:List AV},l.all (slB n)=true→SlotL bk0 ev0 b ev (idl n) (l.map (@den b ev 12)) l
 |[],_=>.nil
 |x::l,h=>by
  rw[List.all_cons,Bool.and_eq_true]at h
  exact .cons (slot_in h.1) (slots_in h.2)
end
def denB [Bk] [Ev] (B:Blk):Blk:=match B with
 | .cells T sz els=>.cells T sz (els.map (·.map (den 12)))
 |B=>B
def blC (n:Nat) (B:Blk):Bool:=match B with
 | .cells _ _ els=>els.all (·.all (slB n))
 |_=>false
def blO (n:Nat) (B:Blk):Bool:=match B with
 | .cells _ _ els=>els.all (·.all (slO n))
 |_=>false
theorem at2_den [Bk] [Ev] {els:List (List AV)} {i j:Nat} {y:AV} (h:at2 (els.map (·.map (den 12))) i j=some y):∃x,at2 els i j=some x∧y=den 12 x:=by
 unfold at2 at h ⊢
 rw[List.getElem?_map]at h
 cases hr:els[i]? with
 |none=>rw[hr]at h;cases h
 |some r =>
  rw[hr]at h
  simp only[Option.map_some,Option.bind_some,List.getElem?_map]at h
  obtain⟨z,hz,rfl⟩:=Option.map_eq_some_iff.1 h
  exact⟨z,hz,rfl⟩
theorem at2_den' [Bk] [Ev] {els:List (List AV)} {i j:Nat} {x:AV} (h:at2 els i j=some x):at2 (els.map (·.map (den 12))) i j=some (den 12 x):=by
 unfold at2 at h ⊢
 rw[List.getElem?_map]
 cases hr:els[i]? with
 |none=>rw[hr]at h;cases h
 |some r =>
  rw[hr]at h
  simp only[Option.bind_some]at h
  simp only[Option.map_some,Option.bind_some,List.getElem?_map,h]
section
variable {b:Bk} {ev:@Ev b} {n:Nat}
theorem blk_out {h1:AH} {i:Nat} {B:Blk} (hi:h1 i=B) (h:blO n B=true):BlkS b ev bk0 ev0 (idl n) h1 (some i) (@denB b ev B):=by
 cases B with
 |cells T sz els =>
  refine⟨trivial,T,sz,els,els.map (·.map (@den b ev 12)),by rw[hi];rfl,rfl,by simp,?_,?_⟩
  ·intro i j y hy
   obtain⟨x,hx,rfl⟩:=@at2_den b ev _ _ _ _ hy
   obtain⟨r,hr,hxr⟩:=at2_mem hx
   exact⟨x,hx,(@den_one b ev 12 x).symm,slot_out (List.all_eq_true.1 (List.all_eq_true.1 h r hr) x hxr)⟩
  ·intro h e he
   obtain⟨r,hr,rfl⟩:=List.mem_map.1 he
   rw[List.length_map];exact h r hr
 |_=>cases h
theorem blk_in {h1:AH} {i:Nat} {B:Blk} (hi:h1 i=@denB b ev B) (h:blC n B=true):BlkS bk0 ev0 b ev (idl n) h1 (some i) B:=by
 cases B with
 |cells T sz els =>
  refine⟨trivial,T,sz,els.map (·.map (@den b ev 12)),els,by rw[hi];rfl,rfl,by simp,?_,?_⟩
  ·intro i j y hy
   obtain⟨r,hr,hxr⟩:=at2_mem hy
   exact⟨_,@at2_den' b ev _ _ _ _ hy,@den_one b ev 12 y,slot_in (List.all_eq_true.1 (List.all_eq_true.1 h r hr) y hxr)⟩
  ·intro h e he
   have:=h _ (List.mem_map.2 ⟨e,he,rfl⟩)
   rwa[List.length_map]at this
 |_=>cases h
theorem blks_go (b1:Bk) (e1:@Ev b1) (b2:Bk) (e2:@Ev b2) (ids:Ids) {h1:AH} {bs:List Blk} (f:Nat→Option Nat) (h:∀i B,bs[i]?=some B→BlkS b1 e1 b2 e2 ids h1 (f i) B):BlkL b1 e1 b2 e2 ids h1 ((List.range bs.length).map f) bs:=by
 induction bs generalizing f with
 |nil=>exact .nil
 |cons B bs ih =>
  rw[List.length_cons,List.range_succ_eq_map,List.map_cons,List.map_map]
  exact .cons (h 0 B rfl) (ih (f∘Nat.succ) fun i B' hB=>h (i+1) B' (by simpa using hB))
theorem pre_out (b:Bk) (ev:@Ev b) {A:Nat→Prop} {w0:World} {a0:Act} {m:Nat→St} {w:World} {a:Act} {f:List AV} {bs:List Blk} (pr:@Pre b ev A w0 a0 m w a f (hOf bs)) (hf:(f.all (slO bs.length)&&bs.all (blO bs.length))=true) :
  ∃m',@Pre bk0 ev0 A w0 a0 m' w a (f.map (@den b ev 12)) (hOf (bs.map (@denB b ev))):=by
 rw[Bool.and_eq_true]at hf
 refine⟨_,Pre.to (ids:=idl bs.length) pr (slots_out hf.1) ?_ ?_⟩
 ·have:=blks_go b ev bk0 ev0 (idl bs.length) (h1:=hOf bs) (bs:=bs.map (@denB b ev)) some ?_
  ·rw[List.length_map]at this;exact this
  ·intro i B hB
   rw[List.getElem?_map]at hB
   obtain⟨B',h',rfl⟩:=Option.map_eq_some_iff.1 hB
   exact blk_out (by unfold hOf;rw[List.getD,h'];rfl) (List.all_eq_true.1 hf.2 B' (List.mem_of_getElem? h'))
 ·intro i j k hi hj
  unfold idl at hi hj
  rw[List.getElem?_map]at hi hj
  obtain⟨x,hx,e⟩:=Option.map_eq_some_iff.1 hi
  obtain⟨y,hy,e'⟩:=Option.map_eq_some_iff.1 hj
  cases e;cases e'
  have l1:=(List.getElem?_eq_some_iff.1 hx)
  have l2:=(List.getElem?_eq_some_iff.1 hy)
  obtain⟨a1,a2⟩:=l1
  obtain⟨b1,b2⟩:=l2
  rw[List.getElem_range]at a2 b2
  omega
theorem pre_in (b:Bk) (ev:@Ev b) {A:Nat→Prop} {w0:World} {a0:Act} {m:Nat→St} {w:World} {a:Act} {f fc:List AV} {bs bc:List Blk} (pr:@Pre bk0 ev0 A w0 a0 m w a fc (hOf bc)) (ef:f.map (@den b ev 12)=fc) (eb:bs.map (@denB b ev)=bc) (hf:(f.all (slB bs.length)&&bs.all (blC bs.length))=true) (hg:b.glob=[]:=by rfl) :
  ∃m',@Pre b ev A w0 a0 m' w a f (hOf bs):=by
 subst ef
 subst eb
 rw[Bool.and_eq_true]at hf
 refine⟨_,Pre.to (ids:=idl bs.length) pr (slots_in hf.1) ?_ ?_ hg⟩
 ·refine blks_go bk0 ev0 b ev (idl bs.length) (bs:=bs) some ?_
  intro i B hB
  exact blk_in (by unfold hOf;rw[List.getD,List.getElem?_map,hB];rfl) (List.all_eq_true.1 hf.2 B (List.mem_of_getElem? hB))
 ·intro i j k hi hj
  unfold idl at hi hj
  rw[List.getElem?_map]at hi hj
  obtain⟨x,hx,e⟩:=Option.map_eq_some_iff.1 hi
  obtain⟨y,hy,e'⟩:=Option.map_eq_some_iff.1 hj
  cases e;cases e'
  have l1:=(List.getElem?_eq_some_iff.1 hx)
  have l2:=(List.getElem?_eq_some_iff.1 hy)
  obtain⟨a1,a2⟩:=l1
  obtain⟨b1,b2⟩:=l2
  rw[List.getElem_range]at a2 b2
  omega
end
theorem quo_def {ρ:Nat→Int} {r p q:Poly} {x y n:Int} (hr:pev ρ r=x) (hp:pev ρ p=y) (hq:pev ρ q=n) (h0:0≤y) (h:x=y/n):pev ρ r=(pev ρ p).tdiv (pev ρ q):=by rw[hr,hp,hq,h,Int.tdiv_eq_ediv_of_nonneg h0]
theorem rem_def {ρ:Nat→Int} {r p q:Poly} {x y n:Int} (hr:pev ρ r=x) (hp:pev ρ p=y) (hq:pev ρ q=n) (h0:0≤y) (h:x=y%n):pev ρ r=(pev ρ p).tmod (pev ρ q):=by rw[hr,hp,hq,h,Int.tmod_eq_emod_of_nonneg h0]
theorem pv_lit (ρ:Nat→Int) (n:Int):pev ρ [([],n)]=n:=by simp[pev,mev]
theorem at_eq {ρ:Nat→Int} {p:Poly} {x:Int} {l:List (List AV)} {r:List AV} (hp:pev ρ p=x) (h:l[x.toNat]?=some r):l[(pev ρ p).toNat]?=some r:=by rw[hp];exact h
end Go.Proofs.Ytjccjmmbebiegaa.Mc
