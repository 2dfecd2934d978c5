/-
 Texts joined and made small by wip/small.sh.
-/
import Derived.Test.YtnepgggkgnckcaaGreatJ5
import Derived.Deep.AppendLies
import Derived.BigQuiet
set_option linter.all false
set_option maxHeartbeats 4000000
set_option maxRecDepth 1000000
namespace Go.Proofs.YtnepgggkgnckcaaGreat
open Go.RowKit
section
variable {B:Nat}
def gZ.amr {w w':World} {e:TypeId} {k:Nat} {v:Value} {n:Nat} {zs:List Int} {r:Option Nat} (h:gZ w B e k v n zs) (g:w.grownBy w' r) (a:v.ownBlock=none\/v.ownBlock≠r):gZ w' B e k v n zs:=World.ownsRow.kept h g a
def gZ.lt2 {w:World} {e:TypeId} {k:Nat} {v:Value} {n:Nat} {zs:List Int} (h:gZ w B e k v n zs):∀b,v.ownBlock=some b->b<w.heap.size/\B<=b:=fun b a=>by
 have:=World.ownsRow.lt h b a;exact⟨by omega,by omega⟩
def I6 {w w':World} {r:Option Nat} (g:w.grownBy w' r) (b:B<=w.heap.size) (a:∀k,r=some k->B<=k):Below B w w':=(Below.refl B w).grown g b a
def Ea {P:Program} (w:World) {ops:Array Oper} {l:List Oper} {o:Oper} {a:Act} {Q:Exit->Act->World->Prop} (D:o.guard=none) (s x:Operand) (t:TypeId)
  (L:o.op=.call { callee:=.builtin .append,args:=#[s,x],argTypes:=#[t,t] })
  (base:Nat) (e:TypeId) (size:Nat) (E:ai5 P t e size)
  (v:Value) (n:Nat) (zs:List Int) (hs:a.eval s=v) (r:gZ w base e size v n zs)
  (b off c:Nat) (f:List Int) (I:a.eval x=.slice (some ⟨b,off,none⟩) 1 c) (C:f.length=size) (R:cD w b off f)
  (M:(n+1)*(size*8)<=140737488355328) (q:base<=w.heap.size)
  (h:∀g cap w',gZ w' base e size (.slice (some ⟨g,0,none⟩) (n+1) cap) (n+1) (zs++f)->w.grownBy w' v.ownBlock->(v.ownBlock=some g\/g=w.heap.size)->g<w'.heap.size->wpList P ops Q l (a.put o.dst (.slice (some ⟨g,0,none⟩) (n+1) cap)) w'):wpList P ops Q (o::l) a w:=by
 obtain⟨J,⟨i,z,N,H,m,F,A⟩,K⟩:=E;have S:n+1<=(n+1)*(size*8):=a3x _ (by omega);refine wpList_append_lies w D s x t L base e i z size (size*8) J N H m F A K v n (ints zs) hs r ⟨b,off,none⟩ 1 c (ints f) I (by rw[uY];omega) ?_ ?_ (by omega) (by unfold maxLen;omega) M q w.heap.size rfl ?_
 .intro j u k
  rw[wP]at k;have d:j<f.length:=by
   rcases a0z j f.length with h|h
   .exact h
   .rw[a04 h]at k;cases k
  have:=R j d;rw[a0f d]at k;rw[a0c,a0f d]at this;simp only[a0s,a0i]at k;subst k;by_cases G:j=0
  .subst G;simpa[Addr.add]using this
  .simpa[Addr.add,G]using this
 .intro u B
  simp only[ints,a0j]at B;obtain⟨y,-,rfl⟩:=B;rfl
 .intro g cap w' p O C d
  exact h g cap w' (by rw[gZ,zR];exact p) O C d
def alp (w:World) (t:Int) (ws:List Int) (m:List Nat) (e:Ending) (w':World):Prop :=
 (if rQ t ws then e=.returned (.tuple #[.slice none 0 0,.int .i64 1])
  else if eB ws≠0 then e=.returned (.tuple #[.slice none 0 0,.int .i64 2])
  else ∃g cap,e=.returned (.tuple #[.slice (some ⟨g,0,none⟩) ws.length cap,.int .i64 0])/\ws.length<=cap/\cap<=maxLen/\g<w'.heap.size/\w.heap.size<=g /\
   cD w' g 0 (nR (iX t (dP ws) ws) (m.take (tU t (dP ws) ws)))/\∀i,w'.frozen? ⟨g,i,none⟩=false)/\Below w.heap.size w w'
structure Two (w:World) (gl gr B:Nat) (A R:List Int) (w0:World):Prop where
 l:cD w gl 0 A
 r:cD w gr 0 R
 fl:∀i,w.frozen? ⟨gl,i,none⟩=false
 fr:∀i,w.frozen? ⟨gr,i,none⟩=false
 ll:gl<w.heap.size
 rl:gr<w.heap.size
 bl:B<=gl
 br:B<=gr
 ne:gl≠gr
 bel:Below B w0 w
def Two.below {w w' w0:World} {b a B:Nat} {A R:List Int} (h:Two w b a B A R w0) (g:Below w.heap.size w w'):Two w' b a B A R w0 :=
 ⟨h.l.below h.ll g,h.r.below h.rl g,fun i=>(g.frozen (p:=⟨b,i,none⟩) h.ll).trans (h.fl i),fun i=>(g.frozen (p:=⟨a,i,none⟩) h.rl).trans (h.fr i),a0x h.ll g.size,a0x h.rl g.size,h.bl,h.br,h.ne,h.bel.trans (g.mono (Nat.le_of_lt (a4k h.bl h.ll)))⟩
def Two.set {w w0:World} {a c:Nat} {A R:List Int} (h:Two w a c B A R w0) {b:Nat} (f:b<A.length) (e:b<R.length) (x y:Int) :
  Two ((w.setCell ⟨a,b,none⟩ (.int .i64 x)).setCell ⟨c,b,none⟩ (.int .i64 y)) a c B (A.set b x) (R.set b y) w0:=by
 have k:=h.bl;have j:=h.br;refine⟨?_,?_,fun i=>by rw[World.frozen?_setCell,World.frozen?_setCell];exact h.fl i,fun i=>by rw[World.frozen?_setCell,World.frozen?_setCell];exact h.fr i,by simpa[World.setCell]using h.ll,by simpa[World.setCell]using h.rl,h.bl,h.br,h.ne,(h.bel.setCell (p:=⟨a,b,none⟩) (by simp only;omega) _).setCell (p:=⟨c,b,none⟩) (by simp only;omega) _⟩
 .have:=cD.put h.l f x
  rw[a02]at this;exact fun i d=>(World.cell?_of_block (w:=w.setCell ⟨a,b,none⟩ (.int .i64 x)) (Below.heap_setCell _ _ _ _ h.ne)).trans (this i d)
 .have g:cD (w.setCell ⟨a,b,none⟩ (.int .i64 x)) c 0 R:=fun i d=>(World.cell?_of_block (w:=w) (Below.heap_setCell _ _ _ _ (Ne.symm h.ne))).trans (h.r i d)
  have:=cD.put g e y;rw[a02]at this;exact this
def X3 {ws:List Int} {j:Nat} {x:Int} (p:Int->Bool) (a:ws[j]?=some x):(ws.take (j+1)).any p=((ws.take j).any p||p x):=by
 rw[a0u,a];simp
def ack {ws:List Int} {j:Nat} {x:Int} {p:Int->Bool} (a:ws[j]?=some x) (h:p x=true):ws.any p=true:=a1u.2 ⟨x,a0a a,h⟩
def OZ (a:Option Addr) (cap:Nat) (ws:List Int) (m:List Nat) (t:Int) (w:World) (h:Row w 1 a ws.length cap ws) (bM:ws.length<=1000000) (bF:kS t)
  (hm:rQ t ws=false->eB ws=0->fP (vP (iW t (dP ws) ws)) m/\kR (vP (iW t (dP ws) ws)) (List.range ws.length) m) :
  Calls Tryz.prog 90 #[.int .i64 t,.slice a ws.length cap] w (alp w t ws m):=by
 have aH:∀e w',rQ t ws=true->e=Ending.returned (.tuple #[.slice none 0 0,.int .i64 1])->Below w.heap.size w w'->alp w t ws m e w':=fun e w' H h2 h3=>⟨by rw[if_pos H];exact h2,h3⟩
 have aF:∀e w',rQ t ws=false->eB ws≠0->e=Ending.returned (.tuple #[.slice none 0 0,.int .i64 2])->Below w.heap.size w w'->alp w t ws m e w':=fun e w' H h2 h3 h4=>⟨by rw[H,if_neg (by simp),if_pos h2];exact h3,h4⟩
 have f:∀g mX e w',rQ t ws=false->eB ws=0->e=Ending.returned (.tuple #[.slice (some ⟨g,0,none⟩) ws.length mX,.int .i64 0])->ws.length<=mX->mX<=maxLen->g<w'.heap.size->w.heap.size<=g->cD w' g 0 (nR (iX t (dP ws) ws) (m.take (tU t (dP ws) ws)))->(∀i,w'.frozen? ⟨g,i,none⟩=false)->Below w.heap.size w w'->alp w t ws m e w' :=
  fun g mX e w' H h2 h3 h4 h5 h6 h9 h7 o h8=>⟨by rw[H,if_neg (by simp),if_neg (by simp[h2])];exact⟨g,mX,h3,h4,h5,h6,h9,h7,o⟩,h8⟩
 obtain⟨n,hN⟩:∃n,ws.length=n:=⟨_,rfl⟩
 rw[hN]at h bM hm f |-;have d:=Lib.hid hN;have ay:=h;obtain⟨hl,bW,bs,aJ,be⟩:=h;unfold maxLen at bs;have af:∀j x,ws[j]?=some x->∃b off,a=some ⟨b,off,none⟩/\w.cell? ⟨b,off+j,none⟩=some (.int .i64 x)/\b<w.heap.size:=by
  intro j x c;have hj:j<ws.length:=by
   rcases a0z j ws.length with g|g
   .exact g
   .rw[a04 g]at c;cases c
  rcases be with h0|⟨b,off,e,F,hc⟩
  .omega
  .exact⟨b,off,e,by rw[hc j hj,a0c,c];rfl,F⟩
 have bc:=Lib.hid af;have bK:=Lib.hid ay;have a4:=Lib.hid hm;have C:=Lib.hid aH;have aS:=Lib.hid aF;have ae:=Lib.hid f;have bP:=Lib.hid aJ;clear hN be af ay hm aH aF f aJ hl;go_enter Tryz.func90,Tryz.ntmps90;go_wp2_with fail;go_loop [6,7] (fun s i=>∃j:Nat,j<=n/\i=.int .i64 j/\s=.bool ((ws.take j).any A2)/\Hid ((ws.take j).any kX=false)) (fun _ i=>n-(intOf i).toNat)
 case atStart=>exact⟨0,by omega,rfl,rfl,rfl⟩
 case round =>
  obtain⟨j,hj,rfl,rfl,an⟩:=hrel;by_cases ab:j<n
  .have bt:(j:Int)<(n:Int):=by omega
   have cd:(0:Int)<=(j:Int):=(by omega);obtain⟨x,c⟩:∃x,ws[j]?=some x:=⟨ws[j]'(by rw[d.out];exact ab),a0f _⟩;obtain⟨b,off,rfl,c0,bd⟩:=bc.out j x c;have O:kX x=true->rQ t ws=true:=fun H=>by simp[rQ,ack c H]
   have U:=X3 A2 c;have s2:=X3 kX c;rw[an.out]at s2;have al:=Lib.hid c;clear c;by_cases bE:x<0
   .have ap:=Lib.hid (O (by simp[kX,bE]))
    clear O U s2;go_wp2_with fail;go_ret2;exact C.out _ _ ap.out rfl (Below.refl _ _)
   .by_cases bD:288230376151711744<x
    .have ap:=Lib.hid (O (by simp[kX,bD]))
     clear O U s2;go_wp2_with fail;go_ret2;exact C.out _ _ ap.out rfl (Below.refl _ _)
    .have hw:kX x=false:=by simp[kX];omega
     rw[hw]at s2;have aT:=Lib.hid s2;clear O s2 hw;cases v:(ws.take j).any A2 with
     |true =>
      rw[v]at U;have ar:=Lib.hid U;clear v U;go_wp2_with fail;go_round
      case rel=>exact⟨j+1,by omega,by go_num,by rw[ar.out];rfl,aT⟩
      case measure=>simp[intOf];omega
     |false =>
      rw[v]at U;have aX:A2 x=decide (0<x):=by unfold A2;rw[a4a];simp;omega
      rw[aX]at U;have ar:=Lib.hid U;clear v U aX;go_wp2_with fail;go_round
      case rel=>exact⟨j+1,by omega,by go_num,by rw[ar.out];simp,aT⟩
      case measure=>simp[intOf];omega
  .have ej:j=n:=by omega
   subst ej;have ce:¬ (j:Int)<(j:Int):=by omega
   have J:ws.take j=ws:=a1l (by rw[d.out];omega);rw[J]at an |-;clear J;by_cases ht:kX t=true
   .have F:=Lib.hid (show rQ t ws=true by simp[rQ,ht])
    by_cases bH:t<0
    .go_wp2_with fail
     go_ret2;exact C.out _ _ F.out rfl (Below.refl _ _)
    .have bG:288230376151711744<t:=by simp[kX]at ht;omega
     go_wp2_with fail;go_ret2;exact C.out _ _ F.out rfl (Below.refl _ _)
   .have av:kX t=false:=by simpa using ht
    have bH:¬ t<0:=fun h=>ht (by simp[kX,h]);have bG:¬ 288230376151711744<t:=fun h=>ht (by simp[kX,h]);cases v:ws.any A2 with
    |false =>
     have F:=Lib.hid (show rQ t ws=true by simp[rQ,v]);clear v ht av;go_wp2_with fail;go_ret2;exact C.out _ _ F.out rfl (Below.refl _ _)
    |true =>
     have F:=Lib.hid (show rQ t ws=false by simp[rQ,v,av,an.out]);clear v ht av an;go_wp2_with fail;refine(Rg _ _ _ _ _ bK.out).mono ?_;rintro e T ⟨rfl,rfl⟩;by_cases G:eB ws=0
     .have Z:=pD.of F.out G
      obtain⟨hr,hs⟩:=a4.out F.out G;have f:=fun g mX e w'=>ae.out g mX e w' F.out G
      rw[G];obtain⟨s,aY⟩:∃s,dP ws=s:=⟨_,rfl⟩
      rw[aY]at Z hr hs f |-;have M:=Lib.hid f;have S:=Lib.hid Z;have bm:=Lib.hid hr;have ax:=Lib.hid hs;have cc:1<=j:=by
       rcases a4b j with h0|h0
       .exfalso
        subst h0;have:ws=[]:=a4s d.out;have H:=Z.sum;have h2:=Z.s0;rw[this]at H;simp at H;omega
       .exact h0
      have b4:1<=s:=Z.s0;have b3:s<=288230376151711744:=Z.s1;have aW:0<=t:=Z.t0;have bR:t<=288230376151711744:=Z.t1;clear Z hr hs f ae a4 G aY;go_wp2_with fail;go_loopw [10,11,12,13] (fun l r u i wr=>∃k:Nat,k<=j/\i=.int .i64 (k:Int)/\u=.int .i64 (t-(iX t s (ws.take k)).sum)/\gZ wr w.heap.size 3 1 l k (iX t s (ws.take k))/\gZ wr w.heap.size 3 1 r k (iW t s (ws.take k))/\(l.ownBlock=none\/l.ownBlock≠r.ownBlock)/\Below w.heap.size w wr) (fun _ _ _ i _=>j-(intOf i).toNat)
      case atStart=>exact⟨0,by omega,rfl,by simp[iX],gZ.nil _ _ _ _,gZ.nil _ _ _ _,.inl rfl,Below.refl _ _⟩
      case round =>
       obtain⟨k,hk,rfl,rfl,Q,P,aq,E⟩:=hrel;have bI:=E.size;have aA:=S.out.left k;by_cases ab:k<j
       .have bt:(k:Int)<(j:Int):=by omega
        have cb:(0:Int)<=(k:Int):=(by omega);obtain⟨x,c⟩:∃x,ws[k]?=some x:=⟨ws[k]'(by rw[d.out];exact ab),a0f _⟩;obtain⟨b,off,rfl,bi,bd⟩:=bc.out k x c;have c0:=(E.cell (p:=⟨b,off+k,none⟩) bd).trans bi;have ba:ws.getD k 0=x:=by rw[a0c,c];rfl
        have az:=S.out.md (a0a c);have aV:=S.out.all x (a0a c);have a3:=aaZ aW (show 0<s by omega) aV.1 aV.2;have ag:=xS t x s;rw[az.1,az.2]at ag;have aa:=aes t s (ws:=ws) (j:=k) (by rw[d.out];exact ab);have am:=aeq t s (ws:=ws) (j:=k) (by rw[d.out];exact ab);rw[ba]at aa am;have bu:=S.out.left (k+1);have V:(iX t s (ws.take (k+1))).sum=(iX t s (ws.take k)).sum+t*x/s:=by rw[aa];simp
        obtain⟨q,hq⟩:∃q,t*x/s=q:=⟨_,rfl⟩;obtain⟨r,hr⟩:∃r,t*x%s=r:=⟨_,rfl⟩;rw[hq]at ag aa V a3;rw[hr]at ag am a3;obtain⟨A,hA⟩:∃A,(iX t s (ws.take k)).sum=A:=⟨_,rfl⟩;rw[hA]at aA V |-;have aR:=Lib.hid V;have bo:=Lib.hid aa;have bk:=Lib.hid am;have bC:kS x:=⟨by omega,by omega⟩;have bJ:kS s:=⟨by omega,by omega⟩;have O:0<=t-A:=(by omega);have ap:0<=t-A-q:=(by omega);have cf:t-A-q<=t:=(by omega);have f1:IntKind.i64.wrap (t-A-q)=t-A-q:=IntWalk.i64_in _ (by omega);have bx:=Lib.hid ag;clear az ag aa am V hq hr hA c ba aA bu bi;go_wp2_with fail;refine(bx.out _ bF bC bJ).mono ?_;rintro e T ⟨rfl,rfl⟩;go_wp2_with (at_builtin;refine Ea _ rfl _ _ 22 rfl w.heap.size 3 1 Np _ k (iX t s (ws.take k)) rfl (Q.alloc _) wr.heap.size 0 1 [q] rfl rfl (cD.new wr [q] 3) ?c1 ?c2 ?_)
        case c1=>omega
        case c2=>simp;omega
        intro g1 b2 T bh ao ad bU;have ai:u11.ownBlock=none\/u11.ownBlock≠u10.ownBlock:=by
         cases bO:u11.ownBlock with
         |none=>exact .inl rfl
         |some z =>
          right;rcases aq with K|K
          .rw[K];simp
          .rw[bO]at K;exact Ne.symm K
        have ak:=(gZ.alloc P (.cells #[.int .i64 q] 3)).amr ao ai;have aI:Below w.heap.size w T:=(E.alloc bI _).trans (I6 ao (by simp;omega) fun z o=>(Q.lt2 z o).2);have bQ:wr.heap.size<T.heap.size:=by have:=ao.size;simp at this;omega
        have a5:u10.ownBlock=some g1\/g1=wr.heap.size+1:=(by simpa using ad)
        have aj:u11.ownBlock≠some g1:=fun e=>by
         rcases a5 with K|K
         .rcases ai with h|h
          .rw[h]at e;cases e
          .rw[K]at h;exact h e
         .have:=(P.lt2 g1 e).1;omega
        have bn:w.heap.size<=T.heap.size:=(by omega);clear ao ad P E;go_wp2_with (at_builtin;refine Ea _ rfl _ _ 22 rfl w.heap.size 3 1 Np _ k (iW t s (ws.take k)) rfl (ak.alloc _) T.heap.size 0 1 [r] rfl rfl (cD.new T [r] 3) ?c1 ?c2 ?_)
        case c1=>omega
        case c2=>simp;omega
        intro g2 b1 w2 bg aE ac bT;have aM:=(gZ.alloc bh (.cells #[.int .i64 r] 3)).amr aE (.inr (fun e=>aj e.symm));have aB:u11.ownBlock=some g2\/g2=T.heap.size+1:=(by simpa using ac)
        have aD:g1≠g2:=by
         rintro rfl;rcases aB with h|h
         .exact aj h
         .omega
        have bv:Below w.heap.size w w2:=(aI.alloc bn _).trans (I6 aE (by simp;omega) fun z o=>(ak.lt2 z o).2);rw[<-bo.out]at aM;rw[<-bk.out]at bg;clear aE ac ak bh aI ai a5 aj aB aq Q;go_wp2_with fail;go_roundw
        case rel=>exact⟨k+1,by omega,by go_num,by rw[aR.out];congr 1;omega,aM,bg,.inr (fun e=>aD (by injection e)),bv⟩
        case measure=>simp[intOf];omega
       .have ek:k=j:=by omega
        subst ek;have bV:¬ (k:Int)<(k:Int):=by omega
        have J:ws.take k=ws:=a1l (by rw[d.out];omega);rw[J]at Q P |-;obtain⟨gl,cl,rfl,ad,ac,bN,a8,a7,a6⟩:=Q.amu (by omega);obtain⟨gr,cr,rfl,a2,a1,b6,bL,a0,aZ⟩:=P.amu (by omega)
        have aD:gl≠gr:=by
         rintro rfl;rcases aq with h|h
         .cases h
         .exact h rfl
        have bw:Two wr gl gr w.heap.size (iX t s ws) (iW t s ws) w:=⟨a7,a0,a6,aZ,ac,a1,ad,a2,aD,E⟩;obtain⟨L1,L2,L3⟩:=adj S.out;rw[<-L1];obtain⟨L,hL⟩:∃L,tU t s ws=L:=⟨_,rfl⟩;rw[hL]at L2 L3 M |-;rw[d.out]at L2;have bZ:=Lib.hid L3;have cg:=Lib.hid hL;unfold maxLen at a8 bL;clear a7 a0 a6 aZ ac a1 ad a2 aq E Q P J L1 L3 hL aA;go_wp2_with fail;go_loopw [12] (fun u wr=>∃i r:Nat,i+r=L/\u=.int .i64 (r:Int)/\Two wr gl gr w.heap.size (nR (iX t s ws) (m.take i)) (jW (iW t s ws) (m.take i)) w) (fun u _=>(intOf u).toNat)
        case atStart=>exact⟨0,L,by omega,rfl,bw⟩
        case round =>
         obtain⟨i,r,a9,rfl,X⟩:=hrel;obtain⟨wo,rfl⟩:∃wo:World,wo=wr:=⟨_,rfl⟩;by_cases ay:0<r
         .have bS:(0:Int)<(r:Int):=by omega
          have aO:(nR (iX t s ws) (m.take i)).length=k:=by rw[Nx,zJ];exact d.out
          have aL:(jW (iW t s ws) (m.take i)).length=k:=by rw[aaA,MB];exact d.out
          have aP:∀b,b<k->0<=(nR (iX t s ws) (m.take i)).getD b 0/\(nR (iX t s ws) (m.take i)).getD b 0<=288230376152711744:=by
           intro b F;have N:b<ws.length:=by rw[d.out];exact F
           have bB:ws.getD b 0∈ws:=by rw[a0c,a0f N];exact a2w N
           have c:=S.out.all _ bB;have hq:=aaZ aW (show 0<s by omega) c.1 c.2;have br:=(xL ax.out).2;rw[Ny _ _ _ (fun p hp=>by rw[zJ,d.out];exact(br p).1 (a2m hp)),Tn N];have hc:=List.count_le_length (a:=b) (l:=m.take i);rw[a17]at hc;omega
          have W:∀B,B<k->(∀p,p<k->(jW (iW t s ws) (m.take i)).getD p 0<=(jW (iW t s ws) (m.take i)).getD B 0)->(∀p,p<B->(jW (iW t s ws) (m.take i)).getD p 0<(jW (iW t s ws) (m.take i)).getD B 0)->m[i]?=some B:=by
           intro B hB H h2;have Xb:(iW t s ws).length=k:=by rw[MB];exact d.out
           refine ak1 bm.out (by rw[Xb];exact ax.out) (fun z o=>?_) (by omega) (by omega) (by rw[Xb];exact H) h2;obtain⟨x,c,rfl⟩:=a0j.1 o;exact a2n _ (by omega)
          have I:∀B,m[i]?=some B->nR (iX t s ws) (m.take (i+1))=(nR (iX t s ws) (m.take i)).set B ((nR (iX t s ws) (m.take i)).getD B 0+1)/\jW (iW t s ws) (m.take (i+1))=(jW (iW t s ws) (m.take i)).set B (-1):=by
           intro B hB;have J:m.take (i+1)=m.take i++[B]:=by rw[a0u,hB];rfl
           rw[J,ae8,SV];exact⟨rfl,rfl⟩
          generalize nR (iX t s ws) (m.take i)=A at X aO aP I;generalize jW (iW t s ws) (m.take i)=R at X aL W I;have aN:=Lib.hid aO;have Y:=Lib.hid aL;have bz:=Lib.hid aP;have aG:=Lib.hid W;have aw:=Lib.hid I;have aC:=Lib.hid a9;clear aO aL aP W I a9;have ca:(1:Int)<=(k:Int):=(by omega);have b5:r<=1000000:=by have:=aC.out;omega
          go_wp2_with fail;go_loopw [17,18] (fun b q wx=>∃B p:Nat,1<=p/\p<=k/\B<p/\b=.int .i64 (B:Int)/\q=.int .i64 (p:Int)/\Hid (∀z,z<p->R.getD z 0<=R.getD B 0)/\Hid (∀z,z<B->R.getD z 0<R.getD B 0)/\Below wo.heap.size wo wx) (fun _ q _=>k-(intOf q).toNat)
          case atStart =>
           have bA:Hid (∀z,z<1->R.getD z 0<=R.getD 0 0):=fun z o=>by
            have:z=0:=(by omega);subst this;exact a0h _
           exact⟨0,1,by omega,by omega,by omega,rfl,rfl,bA,fun z o=>by omega,Below.refl _ _⟩
          case round =>
           obtain⟨B,p,b8,b7,ch,rfl,rfl,ah,aQ,N⟩:=hrel;have D:=X.below N;have ci:(0:Int)<=(B:Int):=(by omega);have b0:(B:Int)<(k:Int):=(by omega);by_cases bq:p<k
           .have bp:(p:Int)<(k:Int):=by omega
            have b9:(0:Int)<=(p:Int):=(by omega);have c0:=D.r p (by rw[Y.out];exact bq);have c1:=D.r B (by rw[Y.out];omega);rw[a02]at c0 c1;obtain⟨x,c⟩:∃x,R.getD p 0=x:=⟨_,rfl⟩;obtain⟨y,hy⟩:∃y,R.getD B 0=y:=⟨_,rfl⟩;rw[c]at c0;rw[hy]at c1;have al:=Lib.hid c;have au:=Lib.hid hy;clear c hy D;by_cases aU:y<x
            .have hd:decide (y<x)=true:=decide_eq_true aU
             go_wp2_with fail;go_quiet (fail);go_wp2_with fail
             case' roundEnd =>
              refine⟨⟨p,p+1,by omega,by omega,by omega,rfl,by go_num,fun z o=>?_,fun z o=>?_,blw⟩,?_⟩
              .rcases a0z z p with g|g
               .have:=ah.out z g;rw[al.out];rw[au.out]at this;omega
               .have:z=p:=by omega
                subst this;omega
              .have:=ah.out z o;rw[al.out];rw[au.out]at this;omega
              .simp[intOf];omega
            .have hd:decide (y<x)=false:=decide_eq_false aU
             go_wp2_with fail;go_quiet (fail);go_wp2_with fail
             case' roundEnd =>
              refine⟨⟨B,p+1,by omega,by omega,by omega,rfl,by go_num,fun z o=>?_,aQ.out,blw⟩,?_⟩
              .rcases a0z z p with g|g
               .exact ah.out z g
               .have:z=p:=by omega
                subst this;rw[al.out,au.out];omega
              .simp[intOf];omega
           .have ep:p=k:=by omega
            have bp:¬ (p:Int)<(k:Int):=(by omega);have hm:=aG.out B (by omega) (fun z o=>ah.out z (by omega)) aQ.out;obtain⟨e1,e2⟩:=aw.out B hm;have bf:=bz.out B (by omega);have c0:=D.l B (by rw[aN.out];omega);rw[a02]at c0;have aK:=D.set (b:=B) (by rw[aN.out];omega) (by rw[Y.out];omega) (A.getD B 0+1) (-1);rw[<-e1,<-e2]at aK;obtain⟨y,hy⟩:∃y,A.getD B 0=y:=⟨_,rfl⟩;rw[hy]at c0 bf aK;obtain⟨bY,bX⟩:=bf;have f1:=D.fl B;have f2:=D.fr B;have c1:=D.r B (by rw[Y.out];omega);rw[a02]at c1;have T:IntKind.i64.wrap (y+1)=y+1:=IntWalk.i64_in _ (by omega);clear hy D hm e1 e2 ah aQ N X;go_wp2_with fail
            case' roundEnd =>
             obtain⟨r',rfl⟩:∃r',r=r'+1:=⟨r-1,by omega⟩;refine⟨⟨i+1,r',by have:=aC.out;omega,by go_num,aK⟩,?_⟩;simp[intOf]
         .obtain rfl:r=0:=by omega
          obtain rfl:i=L:=(by omega);have o:¬ (0:Int)<((0:Nat):Int):=(by omega);have hf:=X.l;go_wp2_with fail;go_ret2;exact M.out gl cl _ _ rfl bN (by unfold maxLen;exact a8) X.ll X.bl hf X.fl X.bel
     .have bb:eB ws=2:=by unfold eB at G |-;split<;>simp_all
      have bj:=Lib.hid G;rw[bb];clear bb G;go_wp2_with fail;go_ret2;exact aS.out _ _ F.out bj.out rfl (Below.refl _ _)
end
section
open Mc
def Tl {A:Nat->Prop} {w:World}:@eC dY dZ A w (.lit 1 (aA [])) (.slice none 0 0):=@eC.nQ dY dZ A w 1 none 0 (by unfold maxLen;omega)
def I5 {t:Int} {ws:List Int} (q:kS t) (v:fM ws) (s:ws.length<=1000000):Ck 90 [.i t,.lit 1 (aA ws)] (.bE [.lit 1 (aA (eG t ws).1),.i (eG t ws).2]):=by
 refine⟨bL (.c _) (bL (kV _).lit fW),.bE _ (bL (kV _).lit (bL (.c _) fW)),?_⟩;intro A w vs x E u l;have k:=SM u;have z:=l 0 _ rfl;generalize vs.getD 0 Go.undef=D at *;have y:=l 1 _ rfl;generalize vs.getD 1 Go.undef=C at *;subst k;cases z;obtain⟨a,cap,rfl,R⟩:=LK y v;have r:=LF (key:=vP (iW t (dP ws) ws)) (List.range ws.length);refine(OZ a cap ws (Of (vP (iW t (dP ws) ws)) (List.range ws.length)) t w R s q (fun _ _=>r)).mono ?_;rintro e w' ⟨b,h⟩;unfold eG;by_cases d:rQ t ws=true
 .rw[if_pos d]at b |-
  subst b;exact⟨_,rfl,mK Tl qD,h⟩
 rw[if_neg d]at b |-;by_cases hs:eB ws≠0
 .rw[if_pos hs]at b |-
  subst b;exact⟨_,rfl,mK Tl qD,h⟩
 rw[if_neg hs]at b |-;obtain⟨g,mX,rfl,j,p,o,n,m,-⟩:=b;have f:(nR (iX t (dP ws) ws) ((Of (vP (iW t (dP ws) ws)) (List.range ws.length)).take (tU t (dP ws) ws))).length=ws.length:=by rw[Nx,zJ]
 refine⟨_,rfl,mK ?_ qD,h⟩;generalize nR (iX t (dP ws) ws) ((Of (vP (iW t (dP ws) ws)) (List.range ws.length)).take (tU t (dP ws) ws))=B at *;rw[<-f]at j |-;exact T7 x j p (.inr ⟨g,0,rfl,n,o,m⟩)
def sH {t:Int} {ws:List Int}:((eG t ws).2=0/\0<=t/\t<=288230376151711744/\(eG t ws).1.length=ws.length/\(∀x∈(eG t ws).1,0<=x/\x<=t)/\(eG t ws).1.sum=t)\/(((eG t ws).2=1\/(eG t ws).2=2)/\(eG t ws).1=[]):=by
 unfold eG;by_cases a:rQ t ws=true
 .rw[if_pos a];exact .inr ⟨.inl rfl,rfl⟩
 rw[if_neg a];by_cases hs:eB ws≠0
 .rw[if_pos hs];exact .inr ⟨.inr rfl,rfl⟩
 rw[if_neg hs];left;have b:=pD.of (by simpa using a) (by simpa using hs);obtain⟨j,g⟩:=LF (key:=vP (iW t (dP ws) ws)) (List.range ws.length);have F:=adz b j g;dsimp only;generalize nR (iX t (dP ws) ws) ((Of (vP (iW t (dP ws) ws)) (List.range ws.length)).take (tU t (dP ws) ws))=B at *
 have e:∀x,x∈B->0<=x:=by
  intro x c;obtain⟨i,f⟩:=a1s.1 c;have d:=(a0y.1 f).1;have m:B.getD i 0=x:=by rw[a0c,f];rfl
  have k:0<=ws.getD i 0:=(b.all _ (dA (by rw[<-F.len];exact d))).1;have l:=a2o (a0q b.t0 k) (show 0<=dP ws by have:=b.s0;omega);rcases F.one i (by rw[<-F.len];exact d)with h|h<;>omega
 refine⟨rfl,b.t0,b.t1,F.len,fun x c=>⟨e x c,?_⟩,F.sum⟩;have:=(PW B x e c).1;rw[F.sum]at this;exact this
def tX (dst a:Int) (refs:List Int):AV:=.agg [.i 11,.i 0,.i 0,.i 0,.i dst,.i 0,.i a,.i 0,.lit 1 (aA refs)]
instance (d a:Int) (l:List Int):yY (tX d a l):=⟨(inferInstance:yY (.agg [.i 11,.i 0,.i 0,.i 0,.i d,.i 0,.i a,.i 0,.lit 1 (aA l)])).out⟩
def eT (S:bF) (r:bF×Int):bF×Int:=if r.2=0 then({ r.1 with done:=1+r.1.done },0)else(S,r.2)
def kU (T:bF):({ T with done:=1+T.done }:bF).av=.agg [.i T.bJ,.i T.bH,.lit 1 (aA T.weights),.lit 1 (aW T.methods),.lit 1 (aW T.bT),.lit 8 (aX T.aH),.lit 8 (fU T.aO),.lit 9 (dN T.aF),.lit 6 (eO T.aG),.i (1+T.done)]:=rfl
section
variable {e item loc dst q a ref r0 r1 r2:Int}
def anx (f:0<=e/\e<=3) (d:0<=item/\item<=4) (c:0<=loc/\loc<=1) (b:1<=q/\q<=1073741824) (g:0<=a/\a<=1073741824):Ck 22 [eM 1 e item loc 0 q a 0] KeF:=cw _ (ev1 { vars:=H5 } [e,item,loc,q,a] [] [] .nil) [(.agg [.i 1,.v 0,.v 1,.v 2,.i 0,.v 3,.v 4,.i 0,.emp])] KeF kn
def anw (c:1<=q/\q<=1073741824) (d:0<=a/\a<=1073741824) (b:0<=ref/\ref<=39):Ck 22 [eM 2 0 0 0 0 q a ref] KeF:=cw _ (ev1 { vars:=Bu } [q,a,ref] [] [] .nil) [(.agg [.i 2,.i 0,.i 0,.i 0,.i 0,.v 0,.v 1,.v 2,.emp])] KeF kn
def anv (b:1<=q/\q<=1073741824) (a:0<=ref/\ref<=39):Ck 22 [eM 3 0 0 0 0 q 0 ref] KeF:=cw _ (ev1 { vars:=[Ke9,(0,39)] } [q,ref] [] [] .nil) [(.agg [.i 3,.i 0,.i 0,.i 0,.i 0,.v 0,.i 0,.v 1,.emp])] KeF kn
def anu (f:0<=e/\e<=3) (d:0<=item/\item<=4) (c:0<=loc/\loc<=1) (b:1<=q/\q<=1073741824) (g:0<=a/\a<=1073741824):Ck 22 [eM 4 e item loc 0 q a 0] KeF:=cw _ (ev1 { vars:=H5 } [e,item,loc,q,a] [] [] .nil) [(.agg [.i 4,.v 0,.v 1,.v 2,.i 0,.v 3,.v 4,.i 0,.emp])] KeF kn
def ant (c:1<=q/\q<=1073741824) (d:0<=a/\a<=1073741824) (b:0<=ref/\ref<=39):Ck 22 [eM 5 0 0 0 0 q a ref] KeF:=cw _ (ev1 { vars:=Bu } [q,a,ref] [] [] .nil) [(.agg [.i 5,.i 0,.i 0,.i 0,.i 0,.v 0,.v 1,.v 2,.emp])] KeF kn
def ans (d:0<=e/\e<=3) (c:0<=item/\item<=4) (b:0<=loc/\loc<=1) (a:1<=q/\q<=1073741824):Ck 22 [eM 6 e item loc 0 q 0 0] KeF:=cw _ (ev1 { vars:=[(0,3),(0,4),(0,1),Ke9] } [e,item,loc,q] [] [] .nil) [(.agg [.i 6,.v 0,.v 1,.v 2,.i 0,.v 3,.i 0,.i 0,.emp])] KeF kn
def anr (d:0<=e/\e<=3) (c:0<=item/\item<=4) (b:0<=loc/\loc<=1) (a:0<=q/\q<=1073741824):Ck 22 [eM 7 e item loc 0 q 0 0] KeF:=by
 rcases(by omega:q=0\/1<=q)with h|h
 .exact cw _ (ev1 { vars:=KaI,facts:=[([([3],1)],0,0)] } [e,item,loc,q] [] [] .nil) WB KeF kn
 .exact cw _ (ev1 { vars:=KaI,facts:=[([([3],1)],1,1073741824)] } [e,item,loc,q] [] [] .nil) WB KeF kn
def anq (g:0<=e/\e<=3) (f:0<=item/\item<=4) (d:0<=loc/\loc<=1) (b:0<=dst/\dst<=1) (c:1<=q/\q<=1073741824) (a:dst≠loc):Ck 22 [eM 8 e item loc dst q 0 0] KeF:=by
 rcases(by omega:dst<loc\/loc<dst)with h|h
 .exact cw _ (ev1 { vars:=D5,facts:=[(KeB,-100,-1)] } [e,item,loc,dst,q] [] [] .nil) WC KeF kn
 .exact cw _ (ev1 { vars:=D5,facts:=[Kcs] } [e,item,loc,dst,q] [] [] .nil) WC KeF kn
def anp (c:0<=e/\e<=3) (b:0<=item/\item<=4) (d:0<=a/\a<=1073741824):Ck 22 [eM 9 e item 0 0 0 a 0] KeF:=cw _ (ev1 { vars:=[(0,3),(0,4),Ke8] } [e,item,a] [] [] .nil) [(.agg [.i 9,.v 0,.v 1,.i 0,.i 0,.i 0,.v 2,.i 0,.emp])] KeF kn
def akP (c:0<=e/\e<=3) (b:0<=item/\item<=4) (d:0<=a/\a<=1073741824):Ck 22 [eM 10 e item 0 0 0 a 0] KeF:=cw _ (ev1 { vars:=[(0,3),(0,4),Ke8] } [e,item,a] [] [] .nil) [(.agg [.i 10,.v 0,.v 1,.i 0,.i 0,.i 0,.v 2,.i 0,.emp])] KeF kn
def akO (i:0<=e/\e<=3) (g:0<=item/\item<=4) (f:0<=loc/\loc<=1) (c:0<=dst/\dst<=3) (d:1<=q/\q<=1073741824) (j:0<=a/\a<=1073741824) (b:dst≠e):Ck 22 [eM 12 e item loc dst q a 0] KeF:=by
 rcases(by omega:dst<e\/e<dst)with h|h
 .exact cw _ (ev1 { vars:=WD,facts:=[([([0],-1),([3],1)],-100,-1)] } [e,item,loc,dst,q,a] [] [] .nil) Wv KeF kn
 .exact cw _ (ev1 { vars:=WD,facts:=[([([0],-1),([3],1)],1,100)] } [e,item,loc,dst,q,a] [] [] .nil) Wv KeF kn
def akN (c:0<=loc/\loc<=1) (b:1<=q/\q<=1073741824) (a:0<=ref/\ref<=39):Ck 22 [eM 13 0 0 loc 0 q 0 ref] KeF:=cw _ (ev1 { vars:=[(0,1),Ke9,(0,39)] } [loc,q,ref] [] [] .nil) [(.agg [.i 13,.i 0,.i 0,.v 0,.i 0,.v 1,.i 0,.v 2,.emp])] KeF kn
def akM (a:0<=e/\e<=3):Ck 22 [eM 14 e 0 0 0 0 0 0] KeF:=cw _ (ev1 { vars:=[(0,3)] } [e] [] [] .nil) [(.agg [.i 14,.v 0,.i 0,.i 0,.i 0,.i 0,.i 0,.i 0,.emp])] KeF kn
def akL (a:0<=e/\e<=3):Ck 22 [eM 15 e 0 0 0 0 0 0] KeF:=cw _ (ev1 { vars:=[(0,3)] } [e] [] [] .nil) [(.agg [.i 15,.v 0,.i 0,.i 0,.i 0,.i 0,.i 0,.i 0,.emp])] KeF kn
def akK (a:0<=e/\e<=3):Ck 22 [eM 16 e 0 0 0 0 0 0] KeF:=cw _ (ev1 { vars:=[(0,3)] } [e] [] [] .nil) [(.agg [.i 16,.v 0,.i 0,.i 0,.i 0,.i 0,.i 0,.i 0,.emp])] KeF kn
def aeW (b:0<=dst/\dst<=2) (c:0<=a/\a<=1073741824) (b0:0<=r0/\r0<=39):Ck 22 [tX dst a [r0]] KeF:=cw _ (ev1 { vars:=[(0,2),Ke8,(0,39)] } [dst,a,r0] [] [] .nil) [(.agg [.i 11,.i 0,.i 0,.i 0,.v 0,.i 0,.v 1,.i 0,(.lit 1 [[.v 2]])])] KeF kn
def aeV (c:0<=dst/\dst<=2) (d:0<=a/\a<=1073741824) (b0:0<=r0/\r0<=39) (b1:0<=r1/\r1<=39) (b:r1≠r0):Ck 22 [tX dst a [r0,r1]] KeF:=by
 rcases(by omega:r0<r1\/r1<r0)with h|h
 .exact cw _ (ev1 { vars:=BU,facts:=[Kcs] } [dst,a,r0,r1] [] [] .nil) Uh KeF kn
 .exact cw _ (ev1 { vars:=BU,facts:=[(KeB,-100,-1)] } [dst,a,r0,r1] [] [] .nil) Uh KeF kn
def aeU (b:0<=dst/\dst<=2) (c:0<=a/\a<=1073741824) (b0:0<=r0/\r0<=39) (b1:0<=r1/\r1<=39) (b2:0<=r2/\r2<=39) (h1:r0<r1) (d:r1<r2):Ck 22 [tX dst a [r0,r1,r2]] KeF:=cw _ (ev1 { vars:=[(0,2),Ke8,(0,39),(0,39),(0,39)],facts:=[Kcs,([([2],-1),([4],1)],1,100),([([3],-1),([4],1)],1,100)] } [dst,a,r0,r1,r2] [] [] .nil) [(.agg [.i 11,.i 0,.i 0,.i 0,.v 0,.i 0,.v 1,.i 0,(.lit 1 [[.v 2],[.v 3],[.v 4]])])] KeF kn
def d_step1 {S:bF} {r:bF×Int} (hC:Ck 22 [eM 1 e item loc 0 q a 0] KeF) (b:Ck 87 [S.av,eM 1 e item loc 0 q a 0] (.bE [r.1.av,.i r.2])) (g:gY r.2) (d:0<=r.1.done/\r.1.done<=1000000) :
  Ck 16 [S.av,eM 1 e item loc 0 q a 0] (.bE [(eT S r).1.av,.i (eT S r).2]):=by
 obtain⟨T,f⟩:=r;dsimp only at *;unfold eT;by_cases c:f=0
 .subst c
  rw[if_pos rfl,kU];exact cw _ (ev1 { vars:=Kfj,bQ:=[YI,(87,Ui,Zw)] } [T.done] (vT S [.I e,.I item,.I loc,.I q,.I a,.I T.bJ,.I T.bH]) (sT S (sT T [])) .nil) Ui QQ (kc hC (kc b kn))
 .rw[if_neg c]
  exact cw _ (ev1 { vars:=Kem,bQ:=[YI,(87,Ui,Zx)] } [f,T.done] (vT S [.I e,.I item,.I loc,.I q,.I a,.I T.bJ,.I T.bH]) (sT S (sT T [])) .nil) Ui KaJ (kc hC (kc b kn))
def akJ {S:bF} {r:bF×Int} (hC:Ck 22 [eM 2 0 0 0 0 q a ref] KeF) (b:Ck 141 [S.av,eM 2 0 0 0 0 q a ref] (.bE [r.1.av,.i r.2])) (e:gY r.2) (d:0<=r.1.done/\r.1.done<=1000000) :
  Ck 16 [S.av,eM 2 0 0 0 0 q a ref] (.bE [(eT S r).1.av,.i (eT S r).2]):=by
 obtain⟨T,f⟩:=r;dsimp only at *;unfold eT;by_cases c:f=0
 .subst c
  rw[if_pos rfl,kU];exact cw _ (ev1 { vars:=Kfj,bQ:=[YJ,(141,Uj,Zy)] } [T.done] (vT S [.I q,.I a,.I ref,.I T.bJ,.I T.bH]) (sT S (sT T [])) .nil) Uj QR (kc hC (kc b kn))
 .rw[if_neg c]
  exact cw _ (ev1 { vars:=Kem,bQ:=[YJ,(141,Uj,Zz)] } [f,T.done] (vT S [.I q,.I a,.I ref,.I T.bJ,.I T.bH]) (sT S (sT T [])) .nil) Uj KaJ (kc hC (kc b kn))
def akI {S:bF} {r:bF×Int} (hC:Ck 22 [eM 3 0 0 0 0 q 0 ref] KeF) (a:Ck 141 [S.av,eM 3 0 0 0 0 q 0 ref] (.bE [r.1.av,.i r.2])) (d:gY r.2) (c:0<=r.1.done/\r.1.done<=1000000) :
  Ck 16 [S.av,eM 3 0 0 0 0 q 0 ref] (.bE [(eT S r).1.av,.i (eT S r).2]):=by
 obtain⟨T,f⟩:=r;dsimp only at *;unfold eT;by_cases b:f=0
 .subst b
  rw[if_pos rfl,kU];exact cw _ (ev1 { vars:=Kfj,bQ:=[YK,(141,Uk,(.bE [(.agg [.o 5,.o 6,.q 1 8,.q 1 9,.q 1 10,.q 8 7,.q 8 11,.q 9 12,.q 6 13,.v 0]),.i 0]))] } [T.done] (vT S [.I q,.I ref,.I T.bJ,.I T.bH]) (sT S (sT T [])) .nil) Uk (.bE [(.agg [.o 5,.o 6,.q 1 8,.q 1 9,.q 1 10,.q 8 7,.q 8 11,.q 9 12,.q 6 13,Kd4]),.i 0]) (kc hC (kc a kn))
 .rw[if_neg b]
  exact cw _ (ev1 { vars:=Kem,bQ:=[YK,(141,Uk,(.bE [(.agg [.o 5,.o 6,.q 1 8,.q 1 9,.q 1 10,.q 8 7,.q 8 11,.q 9 12,.q 6 13,.v 1]),.v 0]))] } [f,T.done] (vT S [.I q,.I ref,.I T.bJ,.I T.bH]) (sT S (sT T [])) .nil) Uk KaJ (kc hC (kc a kn))
def akH {S:bF} {r:bF×Int} (hC:Ck 22 [eM 4 e item loc 0 q a 0] KeF) (b:Ck 139 [S.av,eM 4 e item loc 0 q a 0] (.bE [r.1.av,.i r.2])) (g:gY r.2) (d:0<=r.1.done/\r.1.done<=1000000) :
  Ck 16 [S.av,eM 4 e item loc 0 q a 0] (.bE [(eT S r).1.av,.i (eT S r).2]):=by
 obtain⟨T,f⟩:=r;dsimp only at *;unfold eT;by_cases c:f=0
 .subst c
  rw[if_pos rfl,kU];exact cw _ (ev1 { vars:=Kfj,bQ:=[YL,(139,Ul,Zw)] } [T.done] (vT S [.I e,.I item,.I loc,.I q,.I a,.I T.bJ,.I T.bH]) (sT S (sT T [])) .nil) Ul QQ (kc hC (kc b kn))
 .rw[if_neg c]
  exact cw _ (ev1 { vars:=Kem,bQ:=[YL,(139,Ul,Zx)] } [f,T.done] (vT S [.I e,.I item,.I loc,.I q,.I a,.I T.bJ,.I T.bH]) (sT S (sT T [])) .nil) Ul KaJ (kc hC (kc b kn))
def akG {S:bF} {r:bF×Int} (hC:Ck 22 [eM 5 0 0 0 0 q a ref] KeF) (b:Ck 139 [S.av,eM 5 0 0 0 0 q a ref] (.bE [r.1.av,.i r.2])) (e:gY r.2) (d:0<=r.1.done/\r.1.done<=1000000) :
  Ck 16 [S.av,eM 5 0 0 0 0 q a ref] (.bE [(eT S r).1.av,.i (eT S r).2]):=by
 obtain⟨T,f⟩:=r;dsimp only at *;unfold eT;by_cases c:f=0
 .subst c
  rw[if_pos rfl,kU];exact cw _ (ev1 { vars:=Kfj,bQ:=[YM,(139,Um,Zy)] } [T.done] (vT S [.I q,.I a,.I ref,.I T.bJ,.I T.bH]) (sT S (sT T [])) .nil) Um QR (kc hC (kc b kn))
 .rw[if_neg c]
  exact cw _ (ev1 { vars:=Kem,bQ:=[YM,(139,Um,Zz)] } [f,T.done] (vT S [.I q,.I a,.I ref,.I T.bJ,.I T.bH]) (sT S (sT T [])) .nil) Um KaJ (kc hC (kc b kn))
def akF {S:bF} {r:bF×Int} (hC:Ck 22 [eM 6 e item loc 0 q 0 0] KeF) (a:Ck 140 [S.av,eM 6 e item loc 0 q 0 0] (.bE [r.1.av,.i r.2])) (d:gY r.2) (c:0<=r.1.done/\r.1.done<=1000000) :
  Ck 16 [S.av,eM 6 e item loc 0 q 0 0] (.bE [(eT S r).1.av,.i (eT S r).2]):=by
 obtain⟨T,f⟩:=r;dsimp only at *;unfold eT;by_cases b:f=0
 .subst b
  rw[if_pos rfl,kU];exact cw _ (ev1 { vars:=Kfj,bQ:=[YN,(140,Uo,ZA)] } [T.done] (vT S [.I e,.I item,.I loc,.I q,.I T.bJ,.I T.bH]) (sT S (sT T [])) .nil) Uo QS (kc hC (kc a kn))
 .rw[if_neg b]
  exact cw _ (ev1 { vars:=Kem,bQ:=[YN,(140,Uo,ZB)] } [f,T.done] (vT S [.I e,.I item,.I loc,.I q,.I T.bJ,.I T.bH]) (sT S (sT T [])) .nil) Uo KaJ (kc hC (kc a kn))
def akE {S:bF} {r:bF×Int} (hC:Ck 22 [eM 7 e item loc 0 q 0 0] KeF) (a:Ck 140 [S.av,eM 7 e item loc 0 q 0 0] (.bE [r.1.av,.i r.2])) (d:gY r.2) (c:0<=r.1.done/\r.1.done<=1000000) :
  Ck 16 [S.av,eM 7 e item loc 0 q 0 0] (.bE [(eT S r).1.av,.i (eT S r).2]):=by
 obtain⟨T,f⟩:=r;dsimp only at *;unfold eT;by_cases b:f=0
 .subst b
  rw[if_pos rfl,kU];exact cw _ (ev1 { vars:=Kfj,bQ:=[YO,(140,Uq,ZA)] } [T.done] (vT S [.I e,.I item,.I loc,.I q,.I T.bJ,.I T.bH]) (sT S (sT T [])) .nil) Uq QS (kc hC (kc a kn))
 .rw[if_neg b]
  exact cw _ (ev1 { vars:=Kem,bQ:=[YO,(140,Uq,ZB)] } [f,T.done] (vT S [.I e,.I item,.I loc,.I q,.I T.bJ,.I T.bH]) (sT S (sT T [])) .nil) Uq KaJ (kc hC (kc a kn))
def akD {S:bF} {r:bF×Int} (hC:Ck 22 [eM 8 e item loc dst q 0 0] KeF) (a:Ck 140 [S.av,eM 8 e item loc dst q 0 0] (.bE [r.1.av,.i r.2])) (d:gY r.2) (c:0<=r.1.done/\r.1.done<=1000000) :
  Ck 16 [S.av,eM 8 e item loc dst q 0 0] (.bE [(eT S r).1.av,.i (eT S r).2]):=by
 obtain⟨T,f⟩:=r;dsimp only at *;unfold eT;by_cases b:f=0
 .subst b
  rw[if_pos rfl,kU];exact cw _ (ev1 { vars:=Kfj,bQ:=[YP,(140,Ur,Zw)] } [T.done] (vT S [.I e,.I item,.I loc,.I dst,.I q,.I T.bJ,.I T.bH]) (sT S (sT T [])) .nil) Ur QQ (kc hC (kc a kn))
 .rw[if_neg b]
  exact cw _ (ev1 { vars:=Kem,bQ:=[YP,(140,Ur,Zx)] } [f,T.done] (vT S [.I e,.I item,.I loc,.I dst,.I q,.I T.bJ,.I T.bH]) (sT S (sT T [])) .nil) Ur KaJ (kc hC (kc a kn))
def akC {S:bF} {r:bF×Int} (hC:Ck 22 [eM 9 e item 0 0 0 a 0] KeF) (b:Ck 140 [S.av,eM 9 e item 0 0 0 a 0] (.bE [r.1.av,.i r.2])) (g:gY r.2) (d:0<=r.1.done/\r.1.done<=1000000) :
  Ck 16 [S.av,eM 9 e item 0 0 0 a 0] (.bE [(eT S r).1.av,.i (eT S r).2]):=by
 obtain⟨T,f⟩:=r;dsimp only at *;unfold eT;by_cases c:f=0
 .subst c
  rw[if_pos rfl,kU];exact cw _ (ev1 { vars:=Kfj,bQ:=[YQ,(140,Us,Zy)] } [T.done] (vT S [.I e,.I item,.I a,.I T.bJ,.I T.bH]) (sT S (sT T [])) .nil) Us QR (kc hC (kc b kn))
 .rw[if_neg c]
  exact cw _ (ev1 { vars:=Kem,bQ:=[YQ,(140,Us,Zz)] } [f,T.done] (vT S [.I e,.I item,.I a,.I T.bJ,.I T.bH]) (sT S (sT T [])) .nil) Us KaJ (kc hC (kc b kn))
def ain {S:bF} {r:bF×Int} (hC:Ck 22 [eM 10 e item 0 0 0 a 0] KeF) (b:Ck 143 [S.av,eM 10 e item 0 0 0 a 0] (.bE [r.1.av,.i r.2])) (g:gY r.2) (d:0<=r.1.done/\r.1.done<=1000000) :
  Ck 16 [S.av,eM 10 e item 0 0 0 a 0] (.bE [(eT S r).1.av,.i (eT S r).2]):=by
 obtain⟨T,f⟩:=r;dsimp only at *;unfold eT;by_cases c:f=0
 .subst c
  rw[if_pos rfl,kU];exact cw _ (ev1 { vars:=Kfj,bQ:=[Yr,(143,Y0,Zy)] } [T.done] (vT S [.I e,.I item,.I a,.I T.bJ,.I T.bH]) (sT S (sT T [])) .nil) Y0 QR (kc hC (kc b kn))
 .rw[if_neg c]
  exact cw _ (ev1 { vars:=Kem,bQ:=[Yr,(143,Y0,Zz)] } [f,T.done] (vT S [.I e,.I item,.I a,.I T.bJ,.I T.bH]) (sT S (sT T [])) .nil) Y0 KaJ (kc hC (kc b kn))
def aim {S:bF} {refs:List Int} {r:bF×Int} (hC:Ck 22 [tX dst a refs] KeF) (b:Ck 53 [S.av,tX dst a refs] (.bE [r.1.av,.i r.2])) (e:gY r.2) (d:0<=r.1.done/\r.1.done<=1000000) :
  Ck 16 [S.av,tX dst a refs] (.bE [(eT S r).1.av,.i (eT S r).2]):=by
 obtain⟨T,f⟩:=r;dsimp only at *;unfold eT;by_cases c:f=0
 .subst c
  rw[if_pos rfl,kU];exact cw _ (ev1 { vars:=Kfj,bQ:=[Yh,(53,Ys,(.bE [(.agg [.o 5,.o 6,.q 1 9,.q 1 10,.q 1 11,.q 8 8,.q 8 12,.q 9 13,.q 6 14,.v 0]),.i 0]))] } [T.done] (vT S [.I dst,.I a,.I T.bJ,.I T.bH]) (sT S [aA refs,aX T.aH,aA T.weights,aW T.methods,aW T.bT,fU T.aO,dN T.aF,eO T.aG]) .nil) Ys (.bE [(.agg [.o 5,.o 6,.q 1 9,.q 1 10,.q 1 11,.q 8 8,.q 8 12,.q 9 13,.q 6 14,Kd4]),.i 0]) (kc hC (kc b kn))
 .rw[if_neg c]
  exact cw _ (ev1 { vars:=Kem,bQ:=[Yh,(53,Ys,(.bE [(.agg [.o 5,.o 6,.q 1 9,.q 1 10,.q 1 11,.q 8 8,.q 8 12,.q 9 13,.q 6 14,.v 1]),.v 0]))] } [f,T.done] (vT S [.I dst,.I a,.I T.bJ,.I T.bH]) (sT S [aA refs,aX T.aH,aA T.weights,aW T.methods,aW T.bT,fU T.aO,dN T.aF,eO T.aG]) .nil) Ys KaJ (kc hC (kc b kn))
def ail {S:bF} {r:bF×Int} (hC:Ck 22 [eM 12 e item loc dst q a 0] KeF) (b:Ck 142 [S.av,eM 12 e item loc dst q a 0] (.bE [r.1.av,.i r.2])) (g:gY r.2) (d:0<=r.1.done/\r.1.done<=1000000) :
  Ck 16 [S.av,eM 12 e item loc dst q a 0] (.bE [(eT S r).1.av,.i (eT S r).2]):=by
 obtain⟨T,f⟩:=r;dsimp only at *;unfold eT;by_cases c:f=0
 .subst c
  rw[if_pos rfl,kU];exact cw _ (ev1 { vars:=Kfj,bQ:=[Yt,(142,Y1,(.bE [(.agg [.o 9,.o 10,.q 1 8,.q 1 9,.q 1 10,.q 8 7,.q 8 11,.q 9 12,.q 6 13,.v 0]),.i 0]))] } [T.done] (vT S [.I e,.I item,.I loc,.I dst,.I q,.I a,.I T.bJ,.I T.bH]) (sT S (sT T [])) .nil) Y1 (.bE [(.agg [.o 9,.o 10,.q 1 8,.q 1 9,.q 1 10,.q 8 7,.q 8 11,.q 9 12,.q 6 13,Kd4]),.i 0]) (kc hC (kc b kn))
 .rw[if_neg c]
  exact cw _ (ev1 { vars:=Kem,bQ:=[Yt,(142,Y1,(.bE [(.agg [.o 9,.o 10,.q 1 8,.q 1 9,.q 1 10,.q 8 7,.q 8 11,.q 9 12,.q 6 13,.v 1]),.v 0]))] } [f,T.done] (vT S [.I e,.I item,.I loc,.I dst,.I q,.I a,.I T.bJ,.I T.bH]) (sT S (sT T [])) .nil) Y1 KaJ (kc hC (kc b kn))
def aik {S:bF} {r:bF×Int} (hC:Ck 22 [eM 13 0 0 loc 0 q 0 ref] KeF) (a:Ck 142 [S.av,eM 13 0 0 loc 0 q 0 ref] (.bE [r.1.av,.i r.2])) (d:gY r.2) (c:0<=r.1.done/\r.1.done<=1000000) :
  Ck 16 [S.av,eM 13 0 0 loc 0 q 0 ref] (.bE [(eT S r).1.av,.i (eT S r).2]):=by
 obtain⟨T,f⟩:=r;dsimp only at *;unfold eT;by_cases b:f=0
 .subst b
  rw[if_pos rfl,kU];exact cw _ (ev1 { vars:=Kfj,bQ:=[Yu,(142,Y2,Zy)] } [T.done] (vT S [.I loc,.I q,.I ref,.I T.bJ,.I T.bH]) (sT S (sT T [])) .nil) Y2 QR (kc hC (kc a kn))
 .rw[if_neg b]
  exact cw _ (ev1 { vars:=Kem,bQ:=[Yu,(142,Y2,Zz)] } [f,T.done] (vT S [.I loc,.I q,.I ref,.I T.bJ,.I T.bH]) (sT S (sT T [])) .nil) Y2 KaJ (kc hC (kc a kn))
def aij {S:bF} {r:bF×Int} (hC:Ck 22 [eM 14 e 0 0 0 0 0 0] KeF) (a:Ck 30 [S.av,.i e] (.bE [r.1.av,.i r.2])) (d:gY r.2) (c:0<=r.1.done/\r.1.done<=1000000) :
  Ck 16 [S.av,eM 14 e 0 0 0 0 0 0] (.bE [(eT S r).1.av,.i (eT S r).2]):=by
 obtain⟨T,f⟩:=r;dsimp only at *;unfold eT;by_cases b:f=0
 .subst b
  rw[if_pos rfl,kU];exact cw _ (ev1 { vars:=Kfj,bQ:=[Yv,(30,Kce,ZC)] } [T.done] (vT S [.I e,.I T.bJ,.I T.bH]) (sT S (sT T [])) .nil) Y3 QT (kc hC (kc a kn))
 .rw[if_neg b]
  exact cw _ (ev1 { vars:=Kem,bQ:=[Yv,(30,Kce,ZD)] } [f,T.done] (vT S [.I e,.I T.bJ,.I T.bH]) (sT S (sT T [])) .nil) Y3 KaJ (kc hC (kc a kn))
def aii {S:bF} {r:bF×Int} (hC:Ck 22 [eM 15 e 0 0 0 0 0 0] KeF) (a:Ck 38 [S.av,.i e] (.bE [r.1.av,.i r.2])) (d:gY r.2) (c:0<=r.1.done/\r.1.done<=1000000) :
  Ck 16 [S.av,eM 15 e 0 0 0 0 0 0] (.bE [(eT S r).1.av,.i (eT S r).2]):=by
 obtain⟨T,f⟩:=r;dsimp only at *;unfold eT;by_cases b:f=0
 .subst b
  rw[if_pos rfl,kU];exact cw _ (ev1 { vars:=Kfj,bQ:=[Yw,(38,Kce,ZC)] } [T.done] (vT S [.I e,.I T.bJ,.I T.bH]) (sT S (sT T [])) .nil) Y4 QT (kc hC (kc a kn))
 .rw[if_neg b]
  exact cw _ (ev1 { vars:=Kem,bQ:=[Yw,(38,Kce,ZD)] } [f,T.done] (vT S [.I e,.I T.bJ,.I T.bH]) (sT S (sT T [])) .nil) Y4 KaJ (kc hC (kc a kn))
def aih {S:bF} {r:bF×Int} (hC:Ck 22 [eM 16 e 0 0 0 0 0 0] KeF) (a:Ck 39 [S.av,.i e] (.bE [r.1.av,.i r.2])) (d:gY r.2) (c:0<=r.1.done/\r.1.done<=1000000) :
  Ck 16 [S.av,eM 16 e 0 0 0 0 0 0] (.bE [(eT S r).1.av,.i (eT S r).2]):=by
 obtain⟨T,f⟩:=r;dsimp only at *;unfold eT;by_cases b:f=0
 .subst b
  rw[if_pos rfl,kU];exact cw _ (ev1 { vars:=Kfj,bQ:=[Yx,(39,Kce,ZC)] } [T.done] (vT S [.I e,.I T.bJ,.I T.bH]) (sT S (sT T [])) .nil) Y5 QT (kc hC (kc a kn))
 .rw[if_neg b]
  exact cw _ (ev1 { vars:=Kem,bQ:=[Yx,(39,Kce,ZD)] } [f,T.done] (vT S [.I e,.I T.bJ,.I T.bH]) (sT S (sT T [])) .nil) Y5 KaJ (kc hC (kc a kn))
end
end
section
open Mc
variable {mm:Nat->St} {aa:Act}
def bF.rc (S:bF) (k:Int):vE:=S.aO.getD k.toNat ⟨0,0,0,0,0,0,0,0⟩
def gM (S:bF):bF->List Int->List Int->Int->bF×Int×Int
 |T,[],_,all=>(T,all,0)
 |T,k::a,sh,all=>if(jC T (S.rc k) (sh.headD 0)).2.2≠0 then(T,all,(jC T (S.rc k) (sh.headD 0)).2.2)else gM S (jC T (S.rc k) (sh.headD 0)).1 a sh.tail (all+(jC T (S.rc k) (sh.headD 0)).2.1)
def pT {S T:bF} {k v all:Int} {a vs:List Int}:gM S T (k::a) (v::vs) all=if(jC T (S.rc k) v).2.2≠0 then(T,all,(jC T (S.rc k) v).2.2)else gM S (jC T (S.rc k) v).1 a vs (all+(jC T (S.rc k) v).2.1):=rfl
def qY (S:bF) (dst a:Int) (refs:List Int):bF×Int :=
 if refs.any (fun k=>decide ((S.aO.length:Int)<=k))=true then(S,4)else
 if refs.any (fun k=>decide ((S.rc k).aD≠(S.rc (refs.headD 0)).aD))=true then(S,1)else
 if(S.aB (S.rc (refs.headD 0)).aD).closed=true then(S,7)else
 match eG a (refs.map (iT S dst))with
 |(sh,f)=>if f≠0 then(S,f)else
 match gM S S refs sh 0 with
 |(T,all,f)=>if f≠0 then(S,f)else
 match cZ T (S.rc (refs.headD 0)).aD [⟨0,all⟩,⟨9,a-all⟩,⟨2,-a⟩]with
 |(b,f)=>if f≠0 then(S,f)else(b,0)
namespace LD
abbrev lF1 (i:AV):List AV:=fr 166 [(2,.ptr 10 0 0 0),(3,.ptr 9 1 0 0),(4,.ptr 10 2 0 0),(5,.i 0),(6,i)]
abbrev Fq (i:AV):List AV:=fr 166 [(2,.ptr 10 0 0 0),(3,.ptr 9 1 0 0),(4,.ptr 10 2 0 0),(5,.i 0),(7,.ptr 8 3 0 0),(8,i)]
abbrev NZ (sh all i:AV):List AV:=fr 166 [(2,.ptr 10 0 0 0),(3,.ptr 9 1 0 0),(4,.ptr 10 2 0 0),(5,.i 0),(7,.ptr 8 3 0 0),(9,.i 0),(10,sh),(11,.i 0),(12,.ptr 10 4 0 0),(13,all),(14,i)]
abbrev sC (S:bF) (E:List dE):Mc.dI:=.cells 31 10 [[.i S.bJ,.i S.bH,.lit 1 (aA S.weights),.lit 1 (aW S.methods),.lit 1 (aW S.bT),.lit 8 (aX E),.lit 8 (fU S.aO),.lit 9 (dN S.aF),.lit 6 (eO S.aG),.i S.done]]
abbrev gC (g:vE):Mc.dI:=.cells 110 8 [[.i g.aD,.i g.item,.i g.loc,.i g.eX,.i g.value,.i g.vY,.i g.dL,.i g.back]]
abbrev lB (S:bF) (dst a:Int) (refs:List Int):List Mc.dI:=[sC S S.aH,.cells 50 9 [[.i 11,.i 0,.i 0,.i 0,.i dst,.i 0,.i a,.i 0,.lit 1 (aA refs)]],.cells 31 10 He]
noncomputable def body:Code:=(Tryz.f53).body.getD .skip
abbrev alO (c:Code) (r:Option (RT Out)):Prop:=uG { vars:=BV,lens:=KbY } c (Yy++List.replicate 164 .undef) [] [some 0,some 1,some 2] (lF1 (.i 0)) KJ r
noncomputable def acD:Option (RT Out):=yZ { vars:=BV,lens:=KbY } body (Yy++List.replicate 164 .undef:List AV).length (Yy++List.replicate 164 .undef) [] 0
def an8:alO body acD:=⟨rfl,by decide +kernel,by decide +kernel⟩
abbrev ac5 (c:Code):Prop:=eA { vars:=HW,facts:=[KcJ,(Keu,1,40)],lens:=KbY,iG:=[(7,[([3],1)],[.v 4])] } c (lF1 (.v 3)) KJ 0 [some 0,some 1,some 2] (lF1 Kd5) KJ
abbrev TA (c:Code):Prop:=OE { vars:=HW,facts:=[KcJ,(Keu,-40,0)],lens:=KbY,iG:=[(7,[([3],1)],[.v 4])] } Tryz.f53 c (lF1 (.v 3)) KJ ((.bE [Keg,.i 4]))
abbrev agB (c:Code):Prop:=eA { vars:=BV,lens:=KbY } c (lF1 (.v 0)) KJ 2 [some 0,some 1,some 2] (lF1 (.v 0)) KJ
abbrev agA (o:Option (RT Out)) (r:Option (RT Out)):Prop:=wZ { vars:=V8,facts:=[([([1],1),([3],-1)],1,40)],lens:=KbY,iG:=[(7,[],[.v 3]),WE] } o 0 (lF1 (.v 0)) KJ [some 0,some 1,some 2,some 3] (Fq (.i 1)) [Yd,VE,Vn,(.cells 110 8 [DL])] r
noncomputable def Rb:Option (RT Out):=Oa { vars:=V8,facts:=[([([1],1),([3],-1)],1,40)],lens:=KbY,iG:=[(7,[],[.v 3]),WE] } acD 0 (lF1 (.v 0):List AV).length (lF1 (.v 0)) KJ 3
def amL:agA acD Rb:=⟨rfl,by decide +kernel,by decide +kernel⟩
abbrev ac2 (c:Code):Prop:=eA { vars:=Vo,facts:=[KcK,KcL,KcY],lens:=KbY,iG:=ZX } c (Fq (.v 5)) Kv 0 [some 0,some 1,some 2,some 3] (Fq Kd2) Kv
abbrev ac3 (c:Code):Prop:=OE { vars:=Vo,facts:=[KcK,KcL,(KeC,-10,-1)],lens:=KbY,iG:=ZX } Tryz.f53 c (Fq (.v 5)) Kv BW
abbrev ac4 (c:Code):Prop:=OE { vars:=Vo,facts:=[KcK,KcL,(KeC,1,10)],lens:=KbY,iG:=ZX } Tryz.f53 c (Fq (.v 5)) Kv BW
abbrev agz (c:Code):Prop:=eA { vars:=Ge,lens:=KbY } c (Fq (.v 0)) Kv 4 [some 0,some 1,some 2,some 3] (Fq (.v 0)) Kv
abbrev agy (o:Option (RT Out)) (r:Option (RT Out)):Prop:=wZ { vars:=Ge,lens:=Di,bQ:=JK } o 2 (Fq (.v 0)) Kv [some 0,some 1,some 2,some 3,some 4] (NZ (.q 1 9) (.i 0) (.i 0)) [Yd,VE,Vn,Wj,Yd] r
noncomputable def af3:Option (RT Out):=Oa { vars:=Ge,lens:=Di,bQ:=JK } Rb 2 (Fq (.v 0):List AV).length (Fq (.v 0)) Kv 4
def amK:agy Rb af3:=⟨rfl,by decide +kernel,by decide +kernel⟩
abbrev ac1 (c:Code):Prop:=eA { vars:=[(1,40),(0,40),Kef,(0,3),(0,4),(0,39),(0,39),Kef,Kef],facts:=Hf,lens:=Di,iG:=QM,bQ:=[(91,ZY,(.bE [Kd6,.v 8,.i 0]))] } c (NZ (.q 1 9) (.v 7) (.v 5)) Kk 0 [some 0,some 1,some 2,some 3,some 4] (NZ (.q 1 9) (.e [([7],1),([8],1)]) Kd2) [Yd,VE,Vn,Wj,(.cells 31 10 [[.o 0,.o 1,.q 1 1,.q 1 2,.q 1 3,.q 8 10,.q 8 4,.q 9 5,.q 6 6,.o 2]])]
abbrev Tz (c:Code):Prop:=OE { vars:=[(1,40),(0,40),Kef,(0,3),(0,4),(0,39),(0,39),Kef,(1,20)],facts:=Hf,lens:=Di,iG:=QM,bQ:=[(91,ZY,(.bE [Kd6,.o 19,.v 8]))] } Tryz.f53 c (NZ (.q 1 9) (.v 7) (.v 5)) Kk ((.bE [Keg,.v 8]))
abbrev agx (c:Code):Prop:=eA { vars:=Vk,lens:=Di } c (NZ (.q 1 9) (.v 5) (.v 0)) Kk 6 [some 0,some 1,some 2,some 3,some 4] (NZ (.q 1 9) (.v 5) (.v 0)) Kk
def ad4 {S:bF} (G:Gn S) (b:∀v∈S.weights,0<=v/\v<=1073741824) (dst k:Int):0<=iT S dst k/\iT S dst k<=1152921504606846976:=by
 unfold iT;split
 .omega
 .split
  .omega
  .rename_i g c
   obtain⟨b1,b2,b3,e,n,m,j,i⟩:=G.Eu g (a0a c);have a:=b _ (dA (d:=0) (k:=g.item.toNat) (l:=S.weights) (by omega));split
   .omega
   .split
    .omega
    .split
     .have h:=a0q (show 0<=g.eX by omega) a.1
      have f:g.eX*S.weights.getD g.item.toNat 0<=1073741824*1073741824:=Int.mul_le_mul e.2 a.2 a.1 (by omega);omega
     .omega
def Tm {S:bF} {k:Int} (a:0<=k) (h:k<S.aO.length):S.aO[k.toNat]?=some ⟨(S.rc k).aD,(S.rc k).item,(S.rc k).loc,(S.rc k).eX,(S.rc k).value,(S.rc k).vY,(S.rc k).dL,(S.rc k).back⟩:=getD_some (by omega)
noncomputable abbrev fDo:Func:=Tryz.f53
section
variable {S:bF} {dst a:Int} {refs:List Int} {A:Nat->Prop} {w0:World} {a0:Act} {R:AV}
def ahC (oA:Option (RT Out)) (r1:ac5 (bB oA)) (m:TA (bB oA)) (l:agB (bB oA)) (B:S.aO.length<=40) (h1:1<=refs.length) (v:refs.length<=40) (s:∀k∈refs,0<=k/\k<=39) (y:0<=a/\a<=1125899906842624)
  {w:World} (b:@fD dY dZ A w0 a0 mm w aa (lF1 (.i 0)) (fH (lB S dst a refs))) (g:∀k∈refs,(S.aO.length:Int)<=k->R=.bE [S.av,.i 4])
  (r:(∀k∈refs,k<S.aO.length)->∀mm w aa,@fD dY dZ A w0 a0 mm w aa (lF1 (.i (refs.length:Int))) (fH (lB S dst a refs))->KS Tryz.prog (oK oA) (Fin Tryz.prog fDo A w0 a0 R) (AX.exit 0).to aa w) :
  (Code.loop (bB oA)).wpIn (fw none) 9 Tryz.prog (KS Tryz.prog (oK oA) (Fin Tryz.prog fDo A w0 a0 R)) aa w:=by
 refine dQ (fun n t w=>∃(j:Nat),n=refs.length-j/\j<=refs.length/\(∀k∈refs.take j,k<S.aO.length)/\∃mm,@fD dY dZ A w0 a0 mm w t (lF1 (.i (j:Int))) (fH (lB S dst a refs))) ?_ (n:=refs.length) ⟨0,rfl,a0n _,by simp,_,b⟩;rintro n aa w ⟨j,rfl,x,f,mm,b⟩;rcases(by omega:j=refs.length\/j<refs.length)with rfl|o
 .rw[a1g]at f
  refine l.go (ev1 _ [(refs.length:Int),(S.aO.length:Int),a] (vT S [.I dst]) (sT S [aA refs]) .nil) (xK kn) b ?_;exact r f
 .obtain⟨k,e⟩:∃k,refs[j]?=some k:=⟨_,a0f o⟩
  have q:refs[(j:Int).toNat]?=some k:=by simpa using e
  have u:=s k (a0a e);by_cases p:k<S.aO.length
  .refine r1.go (ev1 _ [(refs.length:Int),(S.aO.length:Int),a,(j:Int),k] (vT S [.I dst]) (sT S [aA refs]) (.d (aI q) .nil)) (xK kn) b (fd:=lF1 (.i (1+(j:Int)))) (bd:=lB S dst a refs) ?_
   intro mm w aa b;rw[show(1+(j:Int))=((j+1:Nat):Int)by omega]at b;refine⟨_,by omega,j+1,rfl,by omega,?_,mm,b⟩;intro z c;rw[a0u,e]at c;rcases a0m.1 c with c|c
   .exact f z c
   .simp at c;rw[c];exact p
  .rw[g k (a0a e) (by omega)]
   exact m.go (ev1 _ [(refs.length:Int),(S.aO.length:Int),a,(j:Int),k] (vT S [.I dst]) (sT S [aA refs]) (.d (aI q) .nil)) (xK kn) b fun a w h=>vW h _
def ahB (e:Option (RT Out)) (r2:ac2 (bB e)) (t:ac3 (bB e)) (u:ac4 (bB e)) (s:agz (bB e)) (G:Gn S) (h1:1<=refs.length) (L:refs.length<=40) (H:∀k∈refs,0<=k/\k<=39) (N:0<=a/\a<=1125899906842624) (B:∀k∈refs,k<S.aO.length)
  {g:vE} (O:(0<=g.aD/\g.aD<=3)/\0<=g.item/\g.item<=4) (C:∀k∈refs.take 1,(S.rc k).aD=g.aD)
  {w:World} (b:@fD dY dZ A w0 a0 mm w aa (Fq (.i 1)) (fH (lB S dst a refs++[gC g]))) (r:∀k∈refs,(S.rc k).aD≠g.aD->R=.bE [S.av,.i 1])
  (F:(∀k∈refs,(S.rc k).aD=g.aD)->∀mm w aa,@fD dY dZ A w0 a0 mm w aa (Fq (.i (refs.length:Int))) (fH (lB S dst a refs++[gC g]))->KS Tryz.prog (oK e) (Fin Tryz.prog fDo A w0 a0 R) (AX.exit 2).to aa w) :
  (Code.loop (bB e)).wpIn (fw none) 9 Tryz.prog (KS Tryz.prog (oK e) (Fin Tryz.prog fDo A w0 a0 R)) aa w:=by
 have P:=G.NY;have:=G.hn;refine dQ (fun n J w=>∃(j:Nat),n=refs.length-j/\1<=j/\j<=refs.length/\(∀k∈refs.take j,(S.rc k).aD=g.aD)/\∃mm,@fD dY dZ A w0 a0 mm w J (Fq (.i (j:Int))) (fH (lB S dst a refs++[gC g]))) ?_ (n:=refs.length-1) ⟨1,rfl,a0g _,h1,C,_,b⟩;rintro n aa w ⟨j,rfl,K,M,c,mm,b⟩;rcases(by omega:j=refs.length\/j<refs.length)with rfl|v
 .rw[a1g]at c
  refine s.go (ev1 _ [(refs.length:Int),(S.aO.length:Int),a,g.aD,g.item] (vT S [.I dst,.I g.loc,.I g.eX,.I g.value,.I g.vY,.I g.dL,.I g.back]) (sT S [aA refs]) .nil) (xK kn) b ?_;exact F c
 .obtain⟨k,m⟩:∃k,refs[j]?=some k:=⟨_,a0f v⟩
  have q:refs[(j:Int).toNat]?=some k:=by simpa using m
  have l:=a0a m;have y:=H k l;have x:=B k l;have p:=Tm y.1 x;obtain⟨E,-⟩:=G.Eu _ (a0a p);dsimp only at E
  have D:=r k l;have nx:(S.rc k).aD=g.aD->∀z∈refs.take (j+1),(S.rc z).aD=g.aD:=by
   intro o z f;rw[a0u,m]at f;rcases a0m.1 f with f|f
   .exact c z f
   .simp at f;rw[f];exact o
  generalize S.rc k=h at *;rcases(by omega:h.aD=g.aD\/h.aD<g.aD\/g.aD<h.aD)with o|o|o
  .refine r2.go (ev1 _ [(refs.length:Int),(S.aO.length:Int),a,g.aD,g.item,(j:Int),k,h.aD] (vT S [.I dst,.I g.loc,.I g.eX,.I g.value,.I g.vY,.I g.dL,.I g.back,.I h.item,.I h.loc,.I h.eX,.I h.value,.I h.vY,.I h.dL,.I h.back]) (sT S [aA refs]) (.d (aI q) (.d (aC p) .nil))) (xK kn) b (fd:=Fq (.i (1+(j:Int)))) (bd:=lB S dst a refs++[gC g]) ?_
   intro mm w aa b;rw[show(1+(j:Int))=((j+1:Nat):Int)by omega]at b;exact⟨_,by omega,j+1,rfl,by omega,by omega,nx o,mm,b⟩
  .rw[D (by omega)]
   exact t.go (ev1 _ [(refs.length:Int),(S.aO.length:Int),a,g.aD,g.item,(j:Int),k,h.aD] (vT S [.I dst,.I g.loc,.I g.eX,.I g.value,.I g.vY,.I g.dL,.I g.back,.I h.item,.I h.loc,.I h.eX,.I h.value,.I h.vY,.I h.dL,.I h.back]) (sT S [aA refs]) (.d (aI q) (.d (aC p) .nil))) (xK kn) b fun a w h=>vW h _
  .rw[D (by omega)]
   exact u.go (ev1 _ [(refs.length:Int),(S.aO.length:Int),a,g.aD,g.item,(j:Int),k,h.aD] (vT S [.I dst,.I g.loc,.I g.eX,.I g.value,.I g.vY,.I g.dL,.I g.back,.I h.item,.I h.loc,.I h.eX,.I h.value,.I h.vY,.I h.dL,.I h.back]) (sT S [aA refs]) (.d (aI q) (.d (aC p) .nil))) (xK kn) b fun a w h=>vW h _
def aed (l:List Int) (j:Nat) (h:j<l.length):(l.take (j+1)).sum=(l.take j).sum+l.getD j 0:=by
 rw[a0u,a1h,a0f h,a0c,a0f h];simp
def IE (l:List Int) (h:∀x∈l,0<=x) (j:Nat):(l.take j).sum<=l.sum:=by
 have e:l.sum=(l.take j).sum+(l.drop j).sum:=by rw[<-a1h,a2j]
 have:0<=(l.drop j).sum:=by
  have go:∀(m:List Int),(∀x∈m,0<=x)->0<=m.sum:=by
   intro m;induction m with
   |nil=>intro _;simp
   |cons x t b=>intro a;rw[a0p];have:=a x (by simp);have:=b fun y c=>a y (by simp[c]);omega
  exact go _ fun x d=>h x (a21 d)
 omega
def aov (o:Option (RT Out)) (r3:ac1 (bB o)) (O:Tz (bB o)) (N:agx (bB o)) (G:Gn S) (hd:S.done<=1000000) (h1:1<=refs.length) (ah:refs.length<=40) (r:∀k∈refs,0<=k/\k<=39) (ha:0<=a/\a<=1125899906842624) (Z:∀k∈refs,k<S.aO.length)
  {g:vE} (gb:(0<=g.aD/\g.aD<=3)/\0<=g.item/\g.item<=4) {sh:List Int} (af:sh.length=refs.length) (q:∀x∈sh,0<=x/\x<=a) (ag:sh.sum=a)
  {w:World} (e:@fD dY dZ A w0 a0 mm w aa (NZ (.lit 1 (aA sh)) (.i 0) (.i 0)) (fH (lB S dst a refs++[gC g,sC S S.aH])))
  (H:∀f,(gM S S refs sh 0).2.2=f->f≠0->R=.bE [S.av,.i f])
  (kk:∀E all,gM S S refs sh 0=(S.bM E,all,0)->Kn S (S.bM E)->0<=all/\all<=a->∀mm w aa,@fD dY dZ A w0 a0 mm w aa (NZ (.lit 1 (aA sh)) (.i all) (.i (refs.length:Int))) (fH (lB S dst a refs++[gC g,sC S E]))->KS Tryz.prog (oK o) (Fin Tryz.prog fDo A w0 a0 R) (AX.exit 4).to aa w) :
  (Code.loop (bB o)).wpIn (fw none) 9 Tryz.prog (KS Tryz.prog (oK o) (Fin Tryz.prog fDo A w0 a0 R)) aa w:=by
 have Xb:=G.NY;have:=G.hn;refine dQ (fun n a' w=>∃(j:Nat) (b:List dE) (all:Int),n=refs.length-j/\j<=refs.length/\gM S S refs sh 0=gM S (S.bM b) (refs.drop j) (sh.drop j) all/\Kn S (S.bM b)/\(0<=all/\all<=(sh.take j).sum)/\∃mm,@fD dY dZ A w0 a0 mm w a' (NZ (.lit 1 (aA sh)) (.i all) (.i (j:Int))) (fH (lB S dst a refs++[gC g,sC S b]))) ?_ (n:=refs.length) ⟨0,S.aH,0,rfl,a0n _,rfl,.refl G.toStOk,⟨a0h _,by simp⟩,_,e⟩;rintro n aa w ⟨j,b,all,rfl,hj,l,K,J,mm,e⟩;have ae:=IE sh (fun x F=>(q x F).1) j;rcases(by omega:j=refs.length\/j<refs.length)with rfl|s
 .refine N.go (ev1 _ [(refs.length:Int),(S.aO.length:Int),a,g.aD,g.item,all] (vT S [.I dst,.I g.loc,.I g.eX,.I g.value,.I g.vY,.I g.dL,.I g.back]) (sT S [aA refs,aX b,aA sh]) .nil) (xK kn) e ?_
  exact kk b all (by rw[l,a3k];rfl) K ⟨J.1,by omega⟩
 .obtain⟨k,t⟩:∃k,refs[j]?=some k:=⟨_,a0f s⟩
  have Y:refs[(j:Int).toNat]?=some k:=by simpa using t
  have z:=a0a t;have X:=r k z;have W:=Z k z;have u:=Tm X.1 W;obtain⟨C,B,T,Q,q5,q6,q7,P⟩:=G.Eu _ (a0a u);dsimp only at C B T Q q5 q6 q7 P;obtain⟨v,m⟩:∃v,sh[j]?=some v:=⟨_,a0f (by omega)⟩;have V:sh[(j:Int).toNat]?=some v:=by simpa using m
  have U:=q v (a0a m);have ac:refs.drop j=k::refs.drop (j+1):=by rw[<-a2x s];congr 1;exact Option.some.inj (by rw[<-a0f s,t])
  have ab:sh.drop j=v::sh.drop (j+1):=by rw[<-a2x (by omega:j<sh.length)];congr 1;exact Option.some.inj (by rw[<-a0f,m])
  have p:=aed sh j (by omega);rw[a0c,m]at p;have ad:=IE sh (fun x F=>(q x F).1) (j+1);dsimp only[Option.getD_some]at p;rw[ac,ab,pT]at l;have x1:Ix (S.bM b) (S.rc k).aD (S.rc k).item:=K.ix ⟨C.1,C.2,B.1,B.2⟩;obtain⟨hs,D,c1,M⟩:=Sb (S:=S.bM b) (rv:=(S.rc k).value) (ro:=(S.rc k).vY) (ra:=(S.rc k).dL) (v:=v) (K.gn G) hd x1 T Q P ⟨U.1,by omega⟩;have e0:(⟨(S.rc k).aD,(S.rc k).item,(S.rc k).loc,(S.rc k).eX,(S.rc k).value,(S.rc k).vY,(S.rc k).dL,(S.rc k).back⟩:vE)=S.rc k:=rfl;rw[e0]at hs D c1 M;obtain⟨T2,c,f,r⟩:∃T2 c f,jC (S.bM b) (S.rc k) v=(T2,c,f):=⟨_,_,_,rfl⟩;rw[r]at hs D c1 M;simp only[r]at l;clear r e0;generalize S.rc k=h at hs u;dsimp only at *;have K2:=K.trans D;obtain⟨y,rfl⟩:=K2.ex;by_cases L:f=0
  .subst L
   rw[if_neg (by simp)]at l;refine r3.go (ev1 _ [(refs.length:Int),(S.aO.length:Int),a,g.aD,g.item,(j:Int),k,all,c] (vT S [.I dst,.I g.loc,.I g.eX,.I g.value,.I g.vY,.I g.dL,.I g.back,.I h.aD,.I h.item,.I h.loc,.I h.eX,.I h.value,.I h.vY,.I h.dL,.I h.back,.I v]) (sT S [aA refs,aX b,aA sh,aX y]) (.d (aI Y) (.d (aC u) (.d (aI V) .nil)))) (xK (kc hs kn)) e (fd:=NZ (.lit 1 (aA sh)) (.i (all+c)) (.i (1+(j:Int)))) (bd:=lB S dst a refs++[gC g,sC S y]) ?_;intro mm w aa e;rw[show(1+(j:Int))=((j+1:Nat):Int)by omega]at e;exact⟨_,by omega,j+1,y,all+c,rfl,by omega,l,K2,⟨by omega,by omega⟩,mm,e⟩
  .rw[if_pos L]at l
   rw[H f (by rw[l]) L];have f2:1<=f/\f<=20:=by unfold gY at M;omega
   exact O.go (ev1 _ [(refs.length:Int),(S.aO.length:Int),a,g.aD,g.item,(j:Int),k,all,f] (vT S [.I dst,.I g.loc,.I g.eX,.I g.value,.I g.vY,.I g.dL,.I g.back,.I h.aD,.I h.item,.I h.loc,.I h.eX,.I h.value,.I h.vY,.I h.dL,.I h.back,.I v,.I c]) (sT S [aA refs,aX b,aA sh,aX y]) (.d (aI Y) (.d (aC u) (.d (aI V) .nil)))) (xK (kc hs kn)) e fun a w h=>vW h _
def walk (oA n y:Option (RT Out)) (rA:alO body oA) (r1:ac5 (bB oA)) (am:TA (bB oA)) (al:agB (bB oA)) (ak:agA oA n) (r2:ac2 (bB n)) (ai:ac3 (bB n)) (aj:ac4 (bB n)) (ah:agz (bB n)) (NY:kH { vars:=Ge,lens:=KbY,bQ:=[(89,[Keg,.v 3,.v 4],(.i 7))] } Tryz.f53 n 2 (Fq (.v 0)) Kv BX) (ad:kH { vars:=[(1,40),(0,40),Kef,(0,3),(0,4),(1,20)],lens:=KbY,bQ:=[G6,Gf,(90,[.v 2,.q 1 8],(.bE [.q 1 9,.v 5]))] } Tryz.f53 n 2 (Fq (.v 0)) Kv BY) (ag:agy n y) (r3:ac1 (bB y)) (af:Tz (bB y)) (ae:agx (bB y)) (ab:kH { vars:=Vk,lens:=Di,bQ:=[(92,QV,Kam)] } Tryz.f53 y 4 (NZ (.q 1 9) (.v 5) (.v 0)) Kk (Kam)) (ac:kH { vars:=[(1,40),(0,40),Kef,(0,3),(0,4),Kef,(1,20)],lens:=Di,bQ:=[(92,QV,(.bE [Kd6,.v 6]))] } Tryz.f53 y 4 (NZ (.q 1 9) (.v 5) (.v 0)) Kk (Kau))
  (G:Gn S) (hd:S.done<=1000000) (hw:∀v∈S.weights,0<=v/\v<=1073741824) (h1:1<=refs.length) (F:refs.length<=40) (o:∀k∈refs,0<=k/\k<=39) (Y:kS dst) (Z:0<=a/\a<=1125899906842624) :
  Ck 53 [S.av,tX dst a refs] (.bE [(qY S dst a refs).1.av,.i (qY S dst a refs).2]):=by
 have h:=G.toStOk;have Xb:=G.NY;have:=h.hn;have:=h.hw;obtain⟨z,C⟩:∃k,refs[0]?=some k:=⟨_,a0f (by omega)⟩;have U:refs.headD 0=z:=by cases refs with|nil=>simp at h1|cons x t=>simpa using C
 have B:=a0a C;have V:=o z B;refine CK.hY Tryz.func53 (c:=body) (by kernel_rfl) (Cw.out) (yY.out) fun A w0 a0=>?_
 generalize u:AV.bE [(qY S dst a refs).1.av,.i (qY S dst a refs).2]=R;have hL:∀r:bF×Int,qY S dst a refs=r->R=.bE [r.1.av,.i r.2]:=fun r o=>by rw[<-u,o]
 intro mm w aa j;rw[Tryz.ntmps53]at j;refine rA.go (ev1 _ [(refs.length:Int),(S.aO.length:Int),a] (vT S [.I dst]) (sT S [aA refs]) .nil) (xK kn) j (fd:=lF1 (.i 0)) (bd:=lB S dst a refs) ?_;intro mm w aa j;refine ahC oA r1 am al Xb h1 F o Z j (fun k m s=>hL (S,4) (by unfold qY;rw[if_pos (a1u.2 ⟨k,m,by simpa using s⟩)])) ?_
 intro p mm w aa j;have c1:¬ (refs.any (fun k=>decide ((S.aO.length:Int)<=k))=true):=by
  rw[a1u];rintro⟨k,m,X⟩;have:=p k m;simp at X;omega
 have W:=Tm V.1 (p z B);have Q:refs[(0:Int).toNat]?=some z:=C;have aw:=p z B;obtain⟨L,J,g3,-⟩:=G.Eu _ (a0a W);dsimp only at L J g3;obtain⟨g,s⟩:∃g,S.rc z=g:=⟨_,rfl⟩
 have ap:∀k∈refs.take 1,(S.rc k).aD=g.aD:=by
  intro k m;rw[List.take_one,List.head?_eq_getElem?,C]at m;simp at m;rw[m,s]
 have e:∀r:bF×Int,(if refs.any (fun k=>decide ((S.rc k).aD≠g.aD))=true then(S,1)else if(S.aB g.aD).closed=true then(S,7)else
   match eG a (refs.map (iT S dst))with
   |(sh,f)=>if f≠0 then(S,f)else
   match gM S S refs sh 0 with
   |(T,all,f)=>if f≠0 then(S,f)else
   match cZ T g.aD [⟨0,all⟩,⟨9,a-all⟩,⟨2,-a⟩]with
   |(T2,f)=>if f≠0 then(S,f)else(T2,0))=r->R=.bE [r.1.av,.i r.2]:=fun r o=>hL r (by unfold qY;rw[if_neg c1,U,s];exact o)
 clear hL u;rw[s]at W L J g3;refine ak.go (ev1 _ [(refs.length:Int),(S.aO.length:Int),a,z,g.aD,g.item,g.loc] (vT S [.I dst,.I g.eX,.I g.value,.I g.vY,.I g.dL,.I g.back]) (sT S [aA refs]) (.d (az Q) (.d (aC W) .nil))) (xK kn) j (fd:=Fq (.i 1)) (bd:=lB S dst a refs++[gC g]) ?_;intro mm w aa j;refine ahB n r2 ai aj ah G h1 F o Z p (g:=g) ⟨by omega,by omega,by omega⟩ ap j (fun k m D=>e (S,1) (by rw[if_pos (a1u.2 ⟨k,m,by simpa using D⟩)])) ?_
 intro H mm w aa j;have c2:¬ (refs.any (fun k=>decide ((S.rc k).aD≠g.aD))=true):=by
  rw[a1u];rintro⟨k,m,X⟩;simp[H k m]at X
 rw[if_neg c2]at e;have x:Ix S g.aD g.item:=⟨L.1,L.2,J.1,J.2⟩;have u:=fY h x;by_cases hc:(S.aB g.aD).closed=true
 .rw[if_pos hc]at u e
  rw[e _ rfl];exact NY.go (ev1 _ [(refs.length:Int),(S.aO.length:Int),a,g.aD,g.item] (vT S [.I dst,.I g.loc,.I g.eX,.I g.value,.I g.vY,.I g.dL,.I g.back]) (sT S [aA refs]) .nil) (xK (kc u kn)) j
 rw[if_neg hc]at u e;have ar:fM (refs.map (iT S dst)):=by
  intro v M;obtain⟨k,m,rfl⟩:=a0j.1 M;have:=ad4 G hw dst k;exact⟨by omega,by omega⟩
 have hW:=Ow G hw (basis:=dst) (refs:=refs) (by omega) (fun v M=>by have:=o v M;exact⟨by omega,by omega⟩) Y;have hS:=I5 (t:=a) (ws:=refs.map (iT S dst)) ⟨by omega,by omega⟩ ar (by simp;omega);have O:=sH (t:=a) (ws:=refs.map (iT S dst));rw[a0w]at O;generalize refs.map (iT S dst)=ws at *;generalize eG a ws=sp at *;obtain⟨sh,f⟩:=sp;dsimp only at O hS e;rcases O with⟨hf,t0,t1,P,ao,N⟩|⟨hf,au⟩;rotate_left
 .have aq:f≠0:=by omega
  rw[if_pos aq]at e;rw[e _ rfl];exact ad.go (ev1 _ [(refs.length:Int),(S.aO.length:Int),a,g.aD,g.item,f] (vT S [.I dst,.I g.loc,.I g.eX,.I g.value,.I g.vY,.I g.dL,.I g.back]) (sT S [aA refs,aA ws,aA sh]) .nil) (xK (kc u (kc hW (kc hS kn)))) j
 subst hf;rw[if_neg (by simp)]at e;refine ag.go (ev1 _ [(refs.length:Int),(S.aO.length:Int),a,g.aD,g.item] (vT S [.I dst,.I g.loc,.I g.eX,.I g.value,.I g.vY,.I g.dL,.I g.back]) (sT S [aA refs,aA ws,aA sh]) .nil) (xK (kc u (kc hW (kc hS kn)))) j (fd:=NZ (.lit 1 (aA sh)) (.i 0) (.i 0)) (bd:=lB S dst a refs++[gC g,sC S S.aH]) ?_;intro mm w aa j;refine aov y r3 af ae G hd h1 F o Z p (g:=g) ⟨by omega,by omega,by omega⟩ P ao N j ?_ ?_
 .intro f E D
  refine e (S,f) ?_;obtain⟨T,all,f',an⟩:∃T all f',gM S S refs sh 0=(T,all,f'):=⟨_,_,_,rfl⟩;rw[an]at E |-;dsimp only at E |-;subst E;rw[if_pos D]
 intro E1 all hA K ax mm w aa j;rw[hA]at e;dsimp only at e;rw[if_neg (by simp)]at e;have x3:=K.ix x;have hq:=eH K.ok x3 (l:=[⟨0,all⟩,⟨9,a-all⟩,⟨2,-a⟩]) (vO fmo) (by simp);obtain⟨k4,f4,z4⟩:=dG K.ok x3 [⟨0,all⟩,⟨9,a-all⟩,⟨2,-a⟩];generalize cZ (S.bM E1) g.aD [⟨0,all⟩,⟨9,a-all⟩,⟨2,-a⟩]=b at *;obtain⟨T2,f⟩:=b;dsimp only at *;obtain⟨E2,rfl⟩:=(K.trans k4).ex;by_cases h0:f=0
 .subst h0
  rw[if_neg (by simp)]at e;rw[e _ rfl];exact ab.go (ev1 _ [(refs.length:Int),(S.aO.length:Int),a,g.aD,g.item,all] (vT S [.I dst,.I g.loc,.I g.eX,.I g.value,.I g.vY,.I g.dL,.I g.back]) (sT S [aA refs,aX E1,aA sh,aX E2]) .nil) (xK (kc hq kn)) j
 .rw[if_pos h0]at e
  rw[e _ rfl];have f2:1<=f/\f<=20:=by unfold gY at f4;omega
  exact ac.go (ev1 _ [(refs.length:Int),(S.aO.length:Int),a,g.aD,g.item,all,f] (vT S [.I dst,.I g.loc,.I g.eX,.I g.value,.I g.vY,.I g.dL,.I g.back]) (sT S [aA refs,aX E1,aA sh,aX E2]) .nil) (xK (kc hq kn)) j
end
end LD
def II {S:bF} (G:Gn S) (q:S.done<=1000000):∀(a vs:List Int) (T:bF) (all:Int),Kn S T->(∀k∈a,0<=k/\k<S.aO.length)->(∀v∈vs,0<=v/\v<=1125899906842624)->vs.length=a.length->Kn S (gM S T a vs all).1/\gY (gM S T a vs all).2.2
 |[],vs,T,all,K,_,_,_=>⟨K,⟨by simp[gM],by simp[gM]⟩⟩
 |k::a,[],T,all,K,_,_,h=>by simp at h
 |k::a,v::vs,T,all,K,o,m,h=>by
  rw[pT];have b:=o k (by simp);have x:=LD.Tm b.1 b.2;obtain⟨d,c,g,f,w,u,t,e⟩:=G.Eu _ (a0a x);dsimp only at d c g f w u t e;have j:=m v (by simp);have s:Ix T (S.rc k).aD (S.rc k).item:=K.ix ⟨d.1,d.2,c.1,c.2⟩;have p:T.done<=1000000:=by rw[K.eq];exact q
  obtain⟨-,i,z,r⟩:=Sb (rv:=(S.rc k).value) (ro:=(S.rc k).vY) (ra:=(S.rc k).dL) (v:=v) (K.gn G) p s g f e j;have y:(⟨(S.rc k).aD,(S.rc k).item,(S.rc k).loc,(S.rc k).eX,(S.rc k).value,(S.rc k).vY,(S.rc k).dL,(S.rc k).back⟩:vE)=S.rc k:=rfl;rw[y]at i r;split
  .exact⟨K,r⟩
  .exact II G q a vs _ _ (K.trans i) (fun k n=>o k (by simp[n])) (fun v l=>m v (by simp[l])) (by simpa using h)
def air {S:bF} {dst a:Int} {refs:List Int} (G:Gn S) (q:S.done<=1000000) (z:∀v∈S.weights,0<=v/\v<=1073741824) (h1:1<=refs.length) (u:refs.length<=40) (n:∀k∈refs,0<=k/\k<=39) (m:kS dst) (E:0<=a/\a<=1125899906842624) :
  Ck 53 [S.av,tX dst a refs] (.bE [(qY S dst a refs).1.av,.i (qY S dst a refs).2])/\oD S (qY S dst a refs):=by
 refine⟨LD.walk LD.acD LD.Rb LD.af3 LD.an8 .of .of .of LD.amL .of .of .of .of .of .of LD.amK .of .of .of .of .of G q z h1 u n m E,?_⟩;unfold qY;split
 .exact .bad G ⟨by simp,by simp⟩
 .rename_i F
  split
  .exact .bad G ⟨by simp,by simp⟩
  .split
   .exact .bad G ⟨by simp,by simp⟩
   .have c:∀k∈refs,0<=k/\k<S.aO.length:=by
     intro k p;refine⟨(n k p).1,?_⟩;rcases a2u k S.aO.length with h|h
     .exact h
     .exact absurd (a1u.2 ⟨k,p,by simpa using h⟩) F
    have j:=sH (t:=a) (ws:=refs.map (iT S dst));rw[a0w]at j;generalize eG a (refs.map (iT S dst))=y at *;obtain⟨sh,f⟩:=y;dsimp only at j |-;split
    .exact .bad G ⟨by omega,by omega⟩
    .rename_i M
     rcases j with⟨-,L,J,l,o,B⟩|⟨H,-⟩;rotate_left
     .omega
     obtain⟨K,e1⟩:=II G q refs sh S 0 (.refl G.toStOk) c (fun v A=>by have:=o v A;omega) l;generalize gM S S refs sh 0=r at *;obtain⟨T,all,O⟩:=r;dsimp only at K e1 |-;split
     .exact .bad G e1
     .have C:refs.headD 0∈refs:=by cases refs with|nil=>simp at h1|cons x t=>simp
      have s:=c _ C;have D:=LD.Tm s.1 s.2;obtain⟨e,d,-⟩:=G.Eu _ (a0a D);dsimp only at e d;have x:Ix T (S.rc (refs.headD 0)).aD (S.rc (refs.headD 0)).item:=K.ix ⟨e.1,e.2,d.1,d.2⟩;obtain⟨g,w,I⟩:=dG K.ok x [⟨0,all⟩,⟨9,a-all⟩,⟨2,-a⟩];generalize cZ T (S.rc (refs.headD 0)).aD [⟨0,all⟩,⟨9,a-all⟩,⟨2,-a⟩]=b at *;obtain⟨P,N⟩:=b;dsimp only at g w |-;split
      .exact .bad G w
      .exact .ok (K.trans g) ((K.trans g).gn G) rfl rfl rfl rfl rfl rfl
end
section
open Mc
variable {α:Type}
structure LeA (x y:AV):Prop where
 rd:∀A w v,@eC dY dZ A w x v->@eC dY dZ A w y v
 one:x.one=true->y.one=true
inductive LeL:List AV->List AV->Prop
 |nil:LeL [] []
 |cons {x y:AV} {a b:List AV} (h:LeA x y) (t:LeL a b):LeL (x::a) (y::b)
def LeA.refl (x:AV):LeA x x:=⟨fun _ _ _ h=>h,fun h=>h⟩
def LeL.refl:∀(l:List AV),LeL l l
 |[]=>.nil
 |x::l=>.cons (.refl x) (.refl l)
def LeA.emp (s:Nat):LeA .emp (.lit s []):=⟨fun _ _ _ h=>by cases h;exact @eC.nQ dY dZ _ _ s _ 0 (a0n _),fun _=>rfl⟩
def LeL.get:∀{a b:List AV},LeL a b->a.length=b.length/\∀(j:Nat) (y:AV),b[j]?=some y->∃x,a[j]?=some x/\LeA x y
 |_,_,.nil=>⟨rfl,fun j y h=>by simp at h⟩
 |_,_,.cons h t=>by
  obtain⟨e,d⟩:=t.get;refine⟨by simp[e],fun j y c=>?_⟩
  cases j with
  |zero=>simp at c;subst c;exact⟨_,rfl,h⟩
  |succ j=>simp at c;simpa using d j y c
def LeA.agg {a b:List AV} (h:LeL a b):LeA (.agg a) (.agg b):=by
 obtain⟨m,f⟩:=h.get;refine⟨fun A w v g=>?_,fun h=>by cases h⟩
 cases g with
 |agg _ vs j l k =>
  refine @eC.agg dY dZ _ _ _ vs (by rw[j,m]) ?_ ?_
  .intro i y c
   obtain⟨x,e,d⟩:=f i y c;exact d.one (l i x e)
  .intro i y c
   obtain⟨x,e,d⟩:=f i y c;exact d.rd _ _ _ (k i x e)
def LeA.bE {a b:List AV} (h:LeL a b):LeA (.bE a) (.bE b):=by
 obtain⟨j,g⟩:=h.get;refine⟨fun A w v d=>?_,fun h=>by cases h⟩
 cases d with
 |bE _ vs e f =>
  refine @eC.bE dY dZ _ _ _ vs (by rw[e,j]) ?_;intro i y c;obtain⟨x,l,k⟩:=g i y c;exact k.rd _ _ _ (f i x l)
def LeA.set {s:Nat} {l:List (List AV)} {k:Nat} {r r':List AV} (h:LeL r r'):LeA (.lit s (l.set k r)) (.lit s (l.set k r')):=by
 obtain⟨K,J⟩:=h.get;have row:∀(i:Nat) (g:List AV),(l.set k r')[i]?=some g->∃e,(l.set k r)[i]?=some e/\LeL e g:=by
  intro i g b;rw[a0o]at b |-;split
  .rename_i m
   rw[if_pos m]at b;split
   .rename_i p
    rw[if_pos p]at b;cases b;exact⟨_,rfl,h⟩
   .rename_i p
    rw[if_neg p]at b;cases b
  .rename_i m
   rw[if_neg m]at b;exact⟨_,b,.refl _⟩
 have f:∀(i j:Nat) (y:AV),iE (l.set k r') i j=some y->∃x,iE (l.set k r) i j=some x/\LeA x y:=by
  intro i j y a;unfold iE at a |-;cases n:(l.set k r')[i]? with
  |none=>rw[n]at a;cases a
  |some e =>
   rw[n]at a;obtain⟨g,c,d⟩:=row i e n;obtain⟨x,u,t⟩:=d.get.2 j y a;exact⟨x,by rw[c];exact u,t⟩
 refine⟨fun A w v C=>?_,fun _=>rfl⟩;have o:(l.set k r).length=(l.set k r').length:=by simp
 generalize l.set k r=z at *;cases C with
 |lit _ _ I off cap vs F n E q H B G =>
  rw[o];refine @eC.lit dY dZ _ _ s _ I off cap vs F n (by rw[<-o];exact E) ?_ ?_ ?_ ?_
  .intro e b
   obtain⟨i,m⟩:=a1s.1 b;obtain⟨g,c,d⟩:=row i e m;rw[<-d.get.1];exact q g (a0a c)
  .intro i j y a
   obtain⟨x,c,d⟩:=f i j y a;exact d.one (H i j x c)
  .intro i j y a
   obtain⟨x,c,d⟩:=f i j y a;exact B i j x c
  .intro i j y a
   obtain⟨x,c,d⟩:=f i j y a;exact d.rd _ _ _ (G i j x c)
 |nQ _ a0 cap D =>
  have e:l.set k r'=[]:=a1f.1 (by rw[<-o];rfl);rw[e];exact @eC.nQ dY dZ _ _ s a0 cap D
def aoH {P:Program} {k:FuncId} {xs:List AV} {r r':AV} (h:CK P k xs r) (d:LeA r r') (f:Cl r'):CK P k xs r':=by
 refine⟨h.args,f,?_⟩;intro A w vs j i a c;refine(h.ok A w vs j i a c).mono ?_;rintro e w' ⟨v,rfl,g,b⟩;exact⟨v,rfl,d.rd _ _ _ g,b⟩
def akS {k:FuncId} {xs:List AV} {S:bF} {e now:Int} {c:Bool} {P B R a D:List (List AV)} [lW P] [lW B] [lW R] [lW a] [lW D] (h:Ck k xs (.bE [S.setRow e [.i now,.c (.bool c),.lit 4 P,.lit 1 B,.lit 11 R,.lit 1 a,.lit 1 D,.emp],.i 0])):Ck k xs (.bE [S.setRow e (zW now c P B R a D []),.i 0]):=by
 refine aoH h (.bE (.cons (.agg ?_) (.cons (.refl _) .nil))) (inferInstance:yY _).out;exact .cons (.refl _) (.cons (.refl _) (.cons (.refl _) (.cons (.refl _) (.cons (.refl _) (.cons (.set (.cons (.refl _) (.cons (.refl _) (.cons (.refl _) (.cons (.refl _) (.cons (.refl _) (.cons (.refl _) (.cons (.refl _) (.cons (.emp 8) .nil))))))))) (.refl _))))))
def sX {xs:List Int} {z:List (List Int)} {p:Poly} (k:Nat) (b:cI (fun i=>xs.getD i 0) p=k) (h:∀j,j<z.length->((z.getD j []).length=11)) (a:k<z.length:=by omega):(bN z)[(cI (fun i=>xs.getD i 0) p).toNat]?=some [.i ((z.getD k []).getD 0 0),.i ((z.getD k []).getD 1 0),.i ((z.getD k []).getD 2 0),.i ((z.getD k []).getD 3 0),.i ((z.getD k []).getD 4 0),.i ((z.getD k []).getD 5 0),.i ((z.getD k []).getD 6 0),.i ((z.getD k []).getD 7 0),.i ((z.getD k []).getD 8 0),.i ((z.getD k []).getD 9 0),.i ((z.getD k []).getD 10 0)]:=by
 rw[b];have l:=h k a;have g:=getD_some (l:=z) (d:=[]) a;obtain⟨a0,t,a2,s,r,q,o,n,m,f,c,e⟩:=RN l;rw[e]at g |-;rw[bN,a0l,a00,g];rfl
def ahG {l:List α} (h:l.length=1):∃a0,l=[a0]:=by
 match l,h with
 |[a0],_=>exact⟨a0,rfl⟩
def jP {l:List α} (h:l.length=2):∃a0 a,l=[a0,a]:=by
 match l,h with
 |[a0,a],_=>exact⟨a0,a,rfl⟩
def jO {l:List α} (h:l.length=3):∃a0 a a2,l=[a0,a,a2]:=by
 match l,h with
 |[a0,a,a2],_=>exact⟨a0,a,a2,rfl⟩
def lE {l:List α} (h:l.length=4):∃a0 b a2 a,l=[a0,b,a2,a]:=by
 match l,h with
 |[a0,b,a2,a],_=>exact⟨a0,b,a2,a,rfl⟩
def ahF {l:List α} (h:l.length=5):∃a0 c a2 b a,l=[a0,c,a2,b,a]:=by
 match l,h with
 |[a0,c,a2,b,a],_=>exact⟨a0,c,a2,b,a,rfl⟩
def mG (v:Int):List Int:=[v,0,0,0,0,0,0,0,0,0,0]
def A8 (S:bF) (e:Int):dE:=⟨⟨1+(S.aB e).now,false,(S.aB e).bK,(S.aB e).cN,(List.range S.weights.length).map (fun i:Nat=>mG (bV S e i).1.v),(S.aB e).bD,(S.aB e).down⟩,[]⟩
def A7 (S:bF) (e:Int):bF×Int :=
 if(S.aB e).closed=false then(S,8)else if S.bH<=(S.aB e).now then(S,11)else(S.aZ e (A8 S e),0)
section
variable {S:bF} {e:Int}
def ab1 (G:Gn S) (x:Ix S e 0) (hp:1<=S.bH/\S.bH<=12):Ck 39 [S.av,.i e] (.bE [(A7 S e).1.av,.i (A7 S e).2]):=by
 have h:=G.toStOk;have E:=h.mQ x;have ac:=E.bl;have aa:=E.pr;have ab:=E.dl;have Xc:=E.pl;have L:=E.rl;have:=E.now;have:=x.e0;have:=x.e1;have:=h.hn;have:=h.hw;have:=x.i1;have p:=h.at_ x;have a:∀j,j<(S.aB e).aJ.length->((S.aB e).aJ.getD j []).length=11:=fun j hj=>(E.rr _ (dA hj)).1;have f:∀i:Int,0<=i->i<S.weights.length->Ck 52 [S.av,.i e,.i i] (bV S e i).1.av:=fun i h0 h1=>I3 h ⟨x.e0,x.e1,h0,h1⟩;unfold A7;obtain⟨cl,V⟩:∃cl,cl=(S.aB e).closed:=⟨_,rfl⟩;have p:S.aH[e.toNat]?=some ⟨⟨(S.aB e).now,cl,(S.aB e).bK,(S.aB e).cN,(S.aB e).aJ,(S.aB e).bD,(S.aB e).down⟩,(S.aB e).ahead⟩:=by rw[V];exact p
 rw[<-V];cases cl with
 |false=>rw[if_pos rfl];exact cw _ (ev1 { vars:=KbZ,facts:=[KcZ],lens:=Ke2,iG:=[(0,[([1],1)],[.v 3,Kev,.q 4 7,.q 1 8,.q 11 9,.q 1 10,.q 1 11,.q 8 12])] } [S.bH,e,(S.aH.length:Int),(S.aB e).now] (vT S []) (sT S [bS (S.aB e).bK,aA (S.aB e).cN,bN (S.aB e).aJ,aA (S.aB e).bD,aA (S.aB e).down,bX (S.aB e).ahead]) (.d (aE p) .nil)) Yz (.bE [U3,.i 8]) kn
 |true =>
  rw[if_neg (by simp)];by_cases X:S.bH<=(S.aB e).now
  .rw[if_pos X];exact cw _ (ev1 { vars:=KbZ,facts:=[KcZ,([([0],1),([3],-1)],-200,0)],lens:=Ke2,iG:=[Z3] } [S.bH,e,(S.aH.length:Int),(S.aB e).now] (vT S []) (sT S [bS (S.aB e).bK,aA (S.aB e).cN,bN (S.aB e).aJ,aA (S.aB e).bD,aA (S.aB e).down,bX (S.aB e).ahead]) (.d (aE p) .nil)) Yz (.bE [U3,.i 11]) kn
  rw[if_neg X];have Y:(S.aZ e (A8 S e)).av=S.setRow e (zW (1+(S.aB e).now) false (bS (S.aB e).bK) (aA (S.aB e).cN) (bN ((List.range S.weights.length).map (fun i:Nat=>mG (bV S e i).1.v))) (aA (S.aB e).bD) (aA (S.aB e).down) []):=by
   rw[bF.nV];rfl
  rw[Y];apply akS;unfold dE.rG at *;rcases(by omega:S.weights.length=1\/S.weights.length=2\/S.weights.length=3\/S.weights.length=4\/S.weights.length=5)with n|n|n|n|n
  .have m:=f 0 (by omega) (by omega)
   have b:bN ((List.range S.weights.length).map (fun i:Nat=>mG (bV S e i).1.v))=(bN (S.aB e).aJ).set 0 (jH (mG (bV S e 0).1.v)):=by
    have c:=L.trans n;rw[n];generalize (S.aB e).aJ=z at c;obtain⟨N,rfl⟩:=ahG c;rfl
   rw[b];clear f b;generalize (bV S e 0).1=w at *;obtain⟨k,g,l⟩:=w;exact cw _ (ev1 { vars:=KbZ,facts:=Hg,lens:=[Kfk,(7,[([],2)]),Kfh,(9,[([],1)]),(10,[([],1)]),(11,[([],1)])],iG:=[Z3,(9,[],We)],bQ:=[(52,Z4,(.agg [.o 14,.o 15,.o 16]))] } [S.bH,e,(S.aH.length:Int),(S.aB e).now] (vT S [.I (((S.aB e).aJ.getD 0 []).getD 0 0),.I (((S.aB e).aJ.getD 0 []).getD 1 0),.I (((S.aB e).aJ.getD 0 []).getD 2 0),.I (((S.aB e).aJ.getD 0 []).getD 3 0),.I (((S.aB e).aJ.getD 0 []).getD 4 0),.I (((S.aB e).aJ.getD 0 []).getD 5 0),.I (((S.aB e).aJ.getD 0 []).getD 6 0),.I (((S.aB e).aJ.getD 0 []).getD 7 0),.I (((S.aB e).aJ.getD 0 []).getD 8 0),.I (((S.aB e).aJ.getD 0 []).getD 9 0),.I (((S.aB e).aJ.getD 0 []).getD 10 0),.I k,.I g,.I l]) (sT S [bS (S.aB e).bK,aA (S.aB e).cN,bN (S.aB e).aJ,aA (S.aB e).bD,aA (S.aB e).down,bX (S.aB e).ahead]) (.d (aE p) (.d (sX 0 rfl a) .nil))) Yz (.bE [(.agg [.o 0,.v 0,.q 1 1,.q 1 2,.q 1 3,(.seq 8 0 [([([1],1)],[Kd5,Kev,.q 4 7,.q 1 8,(.seq 11 9 [([],[.o 15,.i 0,.i 0,.i 0,.i 0,.i 0,.i 0,.i 0,.i 0,.i 0,.i 0])] []),.q 1 10,.q 1 11,.emp])] []),.q 8 4,.q 9 5,.q 6 6,.o 2]),.i 0]) (kc m kn)
  .have m:=f 0 (by omega) (by omega)
   have u:=f 1 (by omega) (by omega)
   have b:bN ((List.range S.weights.length).map (fun i:Nat=>mG (bV S e i).1.v))=((bN (S.aB e).aJ).set 0 (jH (mG (bV S e 0).1.v))).set 1 (jH (mG (bV S e 1).1.v)):=by
    have c:=L.trans n;rw[n];generalize (S.aB e).aJ=z at c;obtain⟨N,O,rfl⟩:=jP c;rfl
   rw[b];clear f b;generalize (bV S e 0).1=w at *;obtain⟨k,g,l⟩:=w;generalize (bV S e 1).1=D at *;obtain⟨s,r,t⟩:=D;exact cw _ (ev1 { vars:=KbZ,facts:=Hg,lens:=[Kfk,(7,[([],4)]),Kfh,(9,[([],2)]),(10,[([],2)]),(11,[([],2)])],iG:=[Z3,(9,[],We),Yi],bQ:=[(52,Z4,(.agg [.o 25,.o 26,.o 27])),(52,Z5,(.agg [.o 28,.o 29,.o 30]))] } [S.bH,e,(S.aH.length:Int),(S.aB e).now] (vT S [.I (((S.aB e).aJ.getD 0 []).getD 0 0),.I (((S.aB e).aJ.getD 0 []).getD 1 0),.I (((S.aB e).aJ.getD 0 []).getD 2 0),.I (((S.aB e).aJ.getD 0 []).getD 3 0),.I (((S.aB e).aJ.getD 0 []).getD 4 0),.I (((S.aB e).aJ.getD 0 []).getD 5 0),.I (((S.aB e).aJ.getD 0 []).getD 6 0),.I (((S.aB e).aJ.getD 0 []).getD 7 0),.I (((S.aB e).aJ.getD 0 []).getD 8 0),.I (((S.aB e).aJ.getD 0 []).getD 9 0),.I (((S.aB e).aJ.getD 0 []).getD 10 0),.I (((S.aB e).aJ.getD 1 []).getD 0 0),.I (((S.aB e).aJ.getD 1 []).getD 1 0),.I (((S.aB e).aJ.getD 1 []).getD 2 0),.I (((S.aB e).aJ.getD 1 []).getD 3 0),.I (((S.aB e).aJ.getD 1 []).getD 4 0),.I (((S.aB e).aJ.getD 1 []).getD 5 0),.I (((S.aB e).aJ.getD 1 []).getD 6 0),.I (((S.aB e).aJ.getD 1 []).getD 7 0),.I (((S.aB e).aJ.getD 1 []).getD 8 0),.I (((S.aB e).aJ.getD 1 []).getD 9 0),.I (((S.aB e).aJ.getD 1 []).getD 10 0),.I k,.I g,.I l,.I s,.I r,.I t]) (sT S [bS (S.aB e).bK,aA (S.aB e).cN,bN (S.aB e).aJ,aA (S.aB e).bD,aA (S.aB e).down,bX (S.aB e).ahead]) (.d (aE p) (.d (sX 0 rfl a) (.d (sX 1 rfl a) .nil)))) Yz (.bE [(.agg [.o 0,.v 0,.q 1 1,.q 1 2,.q 1 3,(.seq 8 0 [([([1],1)],[Kd5,Kev,.q 4 7,.q 1 8,(.seq 11 9 [([],[.o 26,.i 0,.i 0,.i 0,.i 0,.i 0,.i 0,.i 0,.i 0,.i 0,.i 0]),([([],1)],[.o 29,.i 0,.i 0,.i 0,.i 0,.i 0,.i 0,.i 0,.i 0,.i 0,.i 0])] []),.q 1 10,.q 1 11,.emp])] []),.q 8 4,.q 9 5,.q 6 6,.o 2]),.i 0]) (kc m (kc u kn))
  .have m:=f 0 (by omega) (by omega)
   have u:=f 1 (by omega) (by omega);have C:=f 2 (by omega) (by omega)
   have b:bN ((List.range S.weights.length).map (fun i:Nat=>mG (bV S e i).1.v))=(((bN (S.aB e).aJ).set 0 (jH (mG (bV S e 0).1.v))).set 1 (jH (mG (bV S e 1).1.v))).set 2 (jH (mG (bV S e 2).1.v)):=by
    have c:=L.trans n;rw[n];generalize (S.aB e).aJ=z at c;obtain⟨N,O,Q,rfl⟩:=jO c;rfl
   rw[b];clear f b;generalize (bV S e 0).1=w at *;obtain⟨k,g,l⟩:=w;generalize (bV S e 1).1=D at *;obtain⟨s,r,t⟩:=D;generalize (bV S e 2).1=M at *;obtain⟨A,y,B⟩:=M;exact cw _ (ev1 { vars:=KbZ,facts:=Hg,lens:=[Kfk,(7,[([],6)]),Kfh,(9,[([],3)]),(10,[([],3)]),(11,[([],3)])],iG:=[Z3,(9,[],We),Yi,Yj],bQ:=[(52,Z4,(.agg [.o 36,.o 37,.o 38])),(52,Z5,(.agg [.o 39,.o 40,.o 41])),(52,Z6,(.agg [.o 42,.o 43,.o 44]))] } [S.bH,e,(S.aH.length:Int),(S.aB e).now] (vT S [.I (((S.aB e).aJ.getD 0 []).getD 0 0),.I (((S.aB e).aJ.getD 0 []).getD 1 0),.I (((S.aB e).aJ.getD 0 []).getD 2 0),.I (((S.aB e).aJ.getD 0 []).getD 3 0),.I (((S.aB e).aJ.getD 0 []).getD 4 0),.I (((S.aB e).aJ.getD 0 []).getD 5 0),.I (((S.aB e).aJ.getD 0 []).getD 6 0),.I (((S.aB e).aJ.getD 0 []).getD 7 0),.I (((S.aB e).aJ.getD 0 []).getD 8 0),.I (((S.aB e).aJ.getD 0 []).getD 9 0),.I (((S.aB e).aJ.getD 0 []).getD 10 0),.I (((S.aB e).aJ.getD 1 []).getD 0 0),.I (((S.aB e).aJ.getD 1 []).getD 1 0),.I (((S.aB e).aJ.getD 1 []).getD 2 0),.I (((S.aB e).aJ.getD 1 []).getD 3 0),.I (((S.aB e).aJ.getD 1 []).getD 4 0),.I (((S.aB e).aJ.getD 1 []).getD 5 0),.I (((S.aB e).aJ.getD 1 []).getD 6 0),.I (((S.aB e).aJ.getD 1 []).getD 7 0),.I (((S.aB e).aJ.getD 1 []).getD 8 0),.I (((S.aB e).aJ.getD 1 []).getD 9 0),.I (((S.aB e).aJ.getD 1 []).getD 10 0),.I (((S.aB e).aJ.getD 2 []).getD 0 0),.I (((S.aB e).aJ.getD 2 []).getD 1 0),.I (((S.aB e).aJ.getD 2 []).getD 2 0),.I (((S.aB e).aJ.getD 2 []).getD 3 0),.I (((S.aB e).aJ.getD 2 []).getD 4 0),.I (((S.aB e).aJ.getD 2 []).getD 5 0),.I (((S.aB e).aJ.getD 2 []).getD 6 0),.I (((S.aB e).aJ.getD 2 []).getD 7 0),.I (((S.aB e).aJ.getD 2 []).getD 8 0),.I (((S.aB e).aJ.getD 2 []).getD 9 0),.I (((S.aB e).aJ.getD 2 []).getD 10 0),.I k,.I g,.I l,.I s,.I r,.I t,.I A,.I y,.I B]) (sT S [bS (S.aB e).bK,aA (S.aB e).cN,bN (S.aB e).aJ,aA (S.aB e).bD,aA (S.aB e).down,bX (S.aB e).ahead]) (.d (aE p) (.d (sX 0 rfl a) (.d (sX 1 rfl a) (.d (sX 2 rfl a) .nil))))) Yz (.bE [(.agg [.o 0,.v 0,.q 1 1,.q 1 2,.q 1 3,(.seq 8 0 [([([1],1)],[Kd5,Kev,.q 4 7,.q 1 8,(.seq 11 9 [([],[.o 37,.i 0,.i 0,.i 0,.i 0,.i 0,.i 0,.i 0,.i 0,.i 0,.i 0]),([([],1)],[.o 40,.i 0,.i 0,.i 0,.i 0,.i 0,.i 0,.i 0,.i 0,.i 0,.i 0]),([([],2)],[.o 43,.i 0,.i 0,.i 0,.i 0,.i 0,.i 0,.i 0,.i 0,.i 0,.i 0])] []),.q 1 10,.q 1 11,.emp])] []),.q 8 4,.q 9 5,.q 6 6,.o 2]),.i 0]) (kc m (kc u (kc C kn)))
  .have m:=f 0 (by omega) (by omega)
   have u:=f 1 (by omega) (by omega);have C:=f 2 (by omega) (by omega);have K:=f 3 (by omega) (by omega)
   have b:bN ((List.range S.weights.length).map (fun i:Nat=>mG (bV S e i).1.v))=((((bN (S.aB e).aJ).set 0 (jH (mG (bV S e 0).1.v))).set 1 (jH (mG (bV S e 1).1.v))).set 2 (jH (mG (bV S e 2).1.v))).set 3 (jH (mG (bV S e 3).1.v)):=by
    have c:=L.trans n;rw[n];generalize (S.aB e).aJ=z at c;obtain⟨N,O,Q,Z,rfl⟩:=lE c;rfl
   rw[b];clear f b;generalize (bV S e 0).1=w at *;obtain⟨k,g,l⟩:=w;generalize (bV S e 1).1=D at *;obtain⟨s,r,t⟩:=D;generalize (bV S e 2).1=M at *;obtain⟨A,y,B⟩:=M;generalize (bV S e 3).1=P at *;obtain⟨H,F,J⟩:=P;exact cw _ (ev1 { vars:=KbZ,facts:=Hg,lens:=[Kfk,(7,[([],8)]),Kfh,(9,[([],4)]),(10,[([],4)]),(11,[([],4)])],iG:=[Z3,(9,[],We),Yi,Yj,Yk],bQ:=[(52,Z4,(.agg [.o 47,.o 48,.o 49])),(52,Z5,(.agg [.o 50,.o 51,.o 52])),(52,Z6,(.agg [.o 53,.o 54,.o 55])),(52,Z7,(.agg [.o 56,.o 57,.o 58]))] } [S.bH,e,(S.aH.length:Int),(S.aB e).now] (vT S [.I (((S.aB e).aJ.getD 0 []).getD 0 0),.I (((S.aB e).aJ.getD 0 []).getD 1 0),.I (((S.aB e).aJ.getD 0 []).getD 2 0),.I (((S.aB e).aJ.getD 0 []).getD 3 0),.I (((S.aB e).aJ.getD 0 []).getD 4 0),.I (((S.aB e).aJ.getD 0 []).getD 5 0),.I (((S.aB e).aJ.getD 0 []).getD 6 0),.I (((S.aB e).aJ.getD 0 []).getD 7 0),.I (((S.aB e).aJ.getD 0 []).getD 8 0),.I (((S.aB e).aJ.getD 0 []).getD 9 0),.I (((S.aB e).aJ.getD 0 []).getD 10 0),.I (((S.aB e).aJ.getD 1 []).getD 0 0),.I (((S.aB e).aJ.getD 1 []).getD 1 0),.I (((S.aB e).aJ.getD 1 []).getD 2 0),.I (((S.aB e).aJ.getD 1 []).getD 3 0),.I (((S.aB e).aJ.getD 1 []).getD 4 0),.I (((S.aB e).aJ.getD 1 []).getD 5 0),.I (((S.aB e).aJ.getD 1 []).getD 6 0),.I (((S.aB e).aJ.getD 1 []).getD 7 0),.I (((S.aB e).aJ.getD 1 []).getD 8 0),.I (((S.aB e).aJ.getD 1 []).getD 9 0),.I (((S.aB e).aJ.getD 1 []).getD 10 0),.I (((S.aB e).aJ.getD 2 []).getD 0 0),.I (((S.aB e).aJ.getD 2 []).getD 1 0),.I (((S.aB e).aJ.getD 2 []).getD 2 0),.I (((S.aB e).aJ.getD 2 []).getD 3 0),.I (((S.aB e).aJ.getD 2 []).getD 4 0),.I (((S.aB e).aJ.getD 2 []).getD 5 0),.I (((S.aB e).aJ.getD 2 []).getD 6 0),.I (((S.aB e).aJ.getD 2 []).getD 7 0),.I (((S.aB e).aJ.getD 2 []).getD 8 0),.I (((S.aB e).aJ.getD 2 []).getD 9 0),.I (((S.aB e).aJ.getD 2 []).getD 10 0),.I (((S.aB e).aJ.getD 3 []).getD 0 0),.I (((S.aB e).aJ.getD 3 []).getD 1 0),.I (((S.aB e).aJ.getD 3 []).getD 2 0),.I (((S.aB e).aJ.getD 3 []).getD 3 0),.I (((S.aB e).aJ.getD 3 []).getD 4 0),.I (((S.aB e).aJ.getD 3 []).getD 5 0),.I (((S.aB e).aJ.getD 3 []).getD 6 0),.I (((S.aB e).aJ.getD 3 []).getD 7 0),.I (((S.aB e).aJ.getD 3 []).getD 8 0),.I (((S.aB e).aJ.getD 3 []).getD 9 0),.I (((S.aB e).aJ.getD 3 []).getD 10 0),.I k,.I g,.I l,.I s,.I r,.I t,.I A,.I y,.I B,.I H,.I F,.I J]) (sT S [bS (S.aB e).bK,aA (S.aB e).cN,bN (S.aB e).aJ,aA (S.aB e).bD,aA (S.aB e).down,bX (S.aB e).ahead]) (.d (aE p) (.d (sX 0 rfl a) (.d (sX 1 rfl a) (.d (sX 2 rfl a) (.d (sX 3 rfl a) .nil)))))) Yz (.bE [(.agg [.o 0,.v 0,.q 1 1,.q 1 2,.q 1 3,(.seq 8 0 [([([1],1)],[Kd5,Kev,.q 4 7,.q 1 8,(.seq 11 9 [([],[.o 48,.i 0,.i 0,.i 0,.i 0,.i 0,.i 0,.i 0,.i 0,.i 0,.i 0]),([([],1)],[.o 51,.i 0,.i 0,.i 0,.i 0,.i 0,.i 0,.i 0,.i 0,.i 0,.i 0]),([([],2)],[.o 54,.i 0,.i 0,.i 0,.i 0,.i 0,.i 0,.i 0,.i 0,.i 0,.i 0]),([([],3)],[.o 57,.i 0,.i 0,.i 0,.i 0,.i 0,.i 0,.i 0,.i 0,.i 0,.i 0])] []),.q 1 10,.q 1 11,.emp])] []),.q 8 4,.q 9 5,.q 6 6,.o 2]),.i 0]) (kc m (kc u (kc C (kc K kn))))
  .have m:=f 0 (by omega) (by omega)
   have u:=f 1 (by omega) (by omega);have C:=f 2 (by omega) (by omega);have K:=f 3 (by omega) (by omega);have W:=f 4 (by omega) (by omega)
   have b:bN ((List.range S.weights.length).map (fun i:Nat=>mG (bV S e i).1.v))=(((((bN (S.aB e).aJ).set 0 (jH (mG (bV S e 0).1.v))).set 1 (jH (mG (bV S e 1).1.v))).set 2 (jH (mG (bV S e 2).1.v))).set 3 (jH (mG (bV S e 3).1.v))).set 4 (jH (mG (bV S e 4).1.v)):=by
    have c:=L.trans n;rw[n];generalize (S.aB e).aJ=z at c;obtain⟨N,O,Q,Z,z4,rfl⟩:=ahF c;rfl
   rw[b];clear f b;generalize (bV S e 0).1=w at *;obtain⟨k,g,l⟩:=w;generalize (bV S e 1).1=D at *;obtain⟨s,r,t⟩:=D;generalize (bV S e 2).1=M at *;obtain⟨A,y,B⟩:=M;generalize (bV S e 3).1=P at *;obtain⟨H,F,J⟩:=P;generalize (bV S e 4).1=W4 at *;obtain⟨T,R,U⟩:=W4;exact cw _ (ev1 { vars:=KbZ,facts:=Hg,lens:=[Kfk,(7,[([],10)]),Kfh,(9,[([],5)]),(10,[([],5)]),(11,[([],5)])],iG:=[Z3,(9,[],We),Yi,Yj,Yk,(9,[([],4)],[.o 47,.o 48,.o 49,.o 50,.o 51,.o 52,.o 53,.o 54,.o 55,.o 56,.o 57])],bQ:=[(52,Z4,(.agg [.o 58,.o 59,.o 60])),(52,Z5,(.agg [.o 61,.o 62,.o 63])),(52,Z6,(.agg [.o 64,.o 65,.o 66])),(52,Z7,(.agg [.o 67,.o 68,.o 69])),(52,[U3,.v 1,.i 4],(.agg [.o 70,.o 71,.o 72]))] } [S.bH,e,(S.aH.length:Int),(S.aB e).now] (vT S [.I (((S.aB e).aJ.getD 0 []).getD 0 0),.I (((S.aB e).aJ.getD 0 []).getD 1 0),.I (((S.aB e).aJ.getD 0 []).getD 2 0),.I (((S.aB e).aJ.getD 0 []).getD 3 0),.I (((S.aB e).aJ.getD 0 []).getD 4 0),.I (((S.aB e).aJ.getD 0 []).getD 5 0),.I (((S.aB e).aJ.getD 0 []).getD 6 0),.I (((S.aB e).aJ.getD 0 []).getD 7 0),.I (((S.aB e).aJ.getD 0 []).getD 8 0),.I (((S.aB e).aJ.getD 0 []).getD 9 0),.I (((S.aB e).aJ.getD 0 []).getD 10 0),.I (((S.aB e).aJ.getD 1 []).getD 0 0),.I (((S.aB e).aJ.getD 1 []).getD 1 0),.I (((S.aB e).aJ.getD 1 []).getD 2 0),.I (((S.aB e).aJ.getD 1 []).getD 3 0),.I (((S.aB e).aJ.getD 1 []).getD 4 0),.I (((S.aB e).aJ.getD 1 []).getD 5 0),.I (((S.aB e).aJ.getD 1 []).getD 6 0),.I (((S.aB e).aJ.getD 1 []).getD 7 0),.I (((S.aB e).aJ.getD 1 []).getD 8 0),.I (((S.aB e).aJ.getD 1 []).getD 9 0),.I (((S.aB e).aJ.getD 1 []).getD 10 0),.I (((S.aB e).aJ.getD 2 []).getD 0 0),.I (((S.aB e).aJ.getD 2 []).getD 1 0),.I (((S.aB e).aJ.getD 2 []).getD 2 0),.I (((S.aB e).aJ.getD 2 []).getD 3 0),.I (((S.aB e).aJ.getD 2 []).getD 4 0),.I (((S.aB e).aJ.getD 2 []).getD 5 0),.I (((S.aB e).aJ.getD 2 []).getD 6 0),.I (((S.aB e).aJ.getD 2 []).getD 7 0),.I (((S.aB e).aJ.getD 2 []).getD 8 0),.I (((S.aB e).aJ.getD 2 []).getD 9 0),.I (((S.aB e).aJ.getD 2 []).getD 10 0),.I (((S.aB e).aJ.getD 3 []).getD 0 0),.I (((S.aB e).aJ.getD 3 []).getD 1 0),.I (((S.aB e).aJ.getD 3 []).getD 2 0),.I (((S.aB e).aJ.getD 3 []).getD 3 0),.I (((S.aB e).aJ.getD 3 []).getD 4 0),.I (((S.aB e).aJ.getD 3 []).getD 5 0),.I (((S.aB e).aJ.getD 3 []).getD 6 0),.I (((S.aB e).aJ.getD 3 []).getD 7 0),.I (((S.aB e).aJ.getD 3 []).getD 8 0),.I (((S.aB e).aJ.getD 3 []).getD 9 0),.I (((S.aB e).aJ.getD 3 []).getD 10 0),.I (((S.aB e).aJ.getD 4 []).getD 0 0),.I (((S.aB e).aJ.getD 4 []).getD 1 0),.I (((S.aB e).aJ.getD 4 []).getD 2 0),.I (((S.aB e).aJ.getD 4 []).getD 3 0),.I (((S.aB e).aJ.getD 4 []).getD 4 0),.I (((S.aB e).aJ.getD 4 []).getD 5 0),.I (((S.aB e).aJ.getD 4 []).getD 6 0),.I (((S.aB e).aJ.getD 4 []).getD 7 0),.I (((S.aB e).aJ.getD 4 []).getD 8 0),.I (((S.aB e).aJ.getD 4 []).getD 9 0),.I (((S.aB e).aJ.getD 4 []).getD 10 0),.I k,.I g,.I l,.I s,.I r,.I t,.I A,.I y,.I B,.I H,.I F,.I J,.I T,.I R,.I U]) (sT S [bS (S.aB e).bK,aA (S.aB e).cN,bN (S.aB e).aJ,aA (S.aB e).bD,aA (S.aB e).down,bX (S.aB e).ahead]) (.d (aE p) (.d (sX 0 rfl a) (.d (sX 1 rfl a) (.d (sX 2 rfl a) (.d (sX 3 rfl a) (.d (sX 4 rfl a) .nil))))))) Yz (.bE [(.agg [.o 0,.v 0,.q 1 1,.q 1 2,.q 1 3,(.seq 8 0 [([([1],1)],[Kd5,Kev,.q 4 7,.q 1 8,(.seq 11 9 [([],[.o 59,.i 0,.i 0,.i 0,.i 0,.i 0,.i 0,.i 0,.i 0,.i 0,.i 0]),([([],1)],[.o 62,.i 0,.i 0,.i 0,.i 0,.i 0,.i 0,.i 0,.i 0,.i 0,.i 0]),([([],2)],[.o 65,.i 0,.i 0,.i 0,.i 0,.i 0,.i 0,.i 0,.i 0,.i 0,.i 0]),([([],3)],[.o 68,.i 0,.i 0,.i 0,.i 0,.i 0,.i 0,.i 0,.i 0,.i 0,.i 0]),([([],4)],[.o 71,.i 0,.i 0,.i 0,.i 0,.i 0,.i 0,.i 0,.i 0,.i 0,.i 0])] []),.q 1 10,.q 1 11,.emp])] []),.q 8 4,.q 9 5,.q 6 6,.o 2]),.i 0]) (kc m (kc u (kc C (kc K (kc W kn)))))
end
end
section
open Mc
def jG (e now:Int) (x:kJ):kJ:=if x.waits=true/\x.aD=e/\x.period=now then{ x with cost:=0,bW:=0 }else x
namespace RO
abbrev rF (e i:AV):List AV:=fr 90 [(1,e),(2,.ptr 10 0 0 0),(4,.ptr 10 3 0 0),(5,.i 0),(6,i)]
abbrev rB (S:bF) (E:List (List AV)) (c:List (List AV)):List Mc.dI:=[.cells 31 10 [[.i S.bJ,.i S.bH,.lit 1 (aA S.weights),.lit 1 (aW S.methods),.lit 1 (aW S.bT),.own 76 8 1 0 S.aH.length,.lit 8 (fU S.aO),.own 137 9 2 0 S.aF.length,.lit 6 (eO S.aG),.i S.done]],.cells 76 8 E,.cells 137 9 c,.cells 31 10 He]
noncomputable def body:Code:=(Tryz.f38).body.getD .skip
abbrev alJ (c:Code) (r:Option (RT Out)):Prop:=uG { vars:=Ken,facts:=Kct,lens:=Dj,iG:=[(12,[],VP),Z8] } c (Kcf++List.replicate 88 .undef) [] [some 0,some 2,some 3,some 1] (rF (.v 1) (.i 0)) [Qa,(.sc 76 8 0 [([([1],1)],VP)] [] [([0],1)]),(.sc 137 9 5 [] [] [([2],1)]),Vn] r
noncomputable def aly:Option (RT Out):=yZ { vars:=Ken,facts:=Kct,lens:=Dj,iG:=[(12,[],VP),Z8] } body (Kcf++List.replicate 88 .undef:List AV).length (Kcf++List.replicate 88 .undef) [] 0
def an4:alJ body aly:=⟨rfl,by decide +kernel,by decide +kernel⟩
abbrev am0 (o:Option (RT Out)):Prop:=kH { vars:=Ken,lens:=Dk } Tryz.f38 o 1 (rF (.v 1) (.v 2)) Kz ((.bE [(.agg [.o 0,.o 1,.q 1 1,.q 1 2,.q 1 3,.q 8 0,.q 8 4,.q 9 7,.q 6 6,.o 2]),.i 0]))
def walk (oA:Option (RT Out)) (O:alJ body oA) (C:eA { vars:=H8,facts:=[KcM,Kc0],lens:=Dk,iG:=[(7,[([3],1)],[.v 4,.o 3,.o 4,.o 5,.o 6,.o 7,.o 8,.v 5,Kev]),Ut] } (bB oA) (rF (.v 1) (.v 3)) Kz 0 [some 0,some 1,some 2,some 3] (rF (.v 1) Kd5) Kz) (D:eA { vars:=H8,facts:=[KcM,(KeD,-100,-1),Kc0],lens:=Dk,iG:=Jl } (bB oA) (rF (.v 1) (.v 3)) Kz 0 [some 0,some 1,some 2,some 3] (rF (.v 1) Kd5) Kz) (E:eA { vars:=H8,facts:=[KcM,(KeD,1,100),Kc0],lens:=Dk,iG:=Jl } (bB oA) (rF (.v 1) (.v 3)) Kz 0 [some 0,some 1,some 2,some 3] (rF (.v 1) Kd5) Kz) (N:eA { vars:=H8,facts:=[KcM,(KeD,0,0),([([5],-1),([6],1)],1,100),Kc0],lens:=Dk,iG:=Jl } (bB oA) (rF (.v 1) (.v 3)) Kz 0 [some 0,some 1,some 2,some 3] (rF (.v 1) Kd5) Kz) (K:eA { vars:=H8,facts:=[KcM,(KeD,0,0),([([5],-1),([6],1)],0,0),Kc0],lens:=Dk,iG:=Jl } (bB oA) (rF (.v 1) (.v 3)) Kz 0 [some 0,some 1,some 2,some 3] (rF (.v 1) Kd5) [Qa,(.sc 76 8 0 [] [] [([0],1)]),(.sc 137 9 7 [([([3],1)],[.v 4,.o 3,.o 4,.o 5,.o 6,.i 0,.i 0,.v 5,KeF])] [] [([2],1)]),Vn]) (L:eA { vars:=Ken,lens:=Dk } (bB oA) (rF (.v 1) (.v 2)) Kz 3 [some 0,some 1,some 2,some 3] (rF (.v 1) (.v 2)) Kz) (M:am0 oA) {S:bF} {e:Int} {x y:EntC}
  (he:0<=e/\e<S.aH.length) (Y:S.aH.length<=4) (h1:1<=S.aF.length) (V:S.aF.length<=40) (B:S.aH[e.toNat]?=some ⟨⟨x.now,true,x.bK,x.cN,x.aJ,x.bD,x.down⟩,[y]⟩)
  (T:1<=y.now/\y.now<=12) (hs:∀g∈S.aF,(0<=g.aD/\g.aD<S.aH.length)/\1<=g.period/\g.period<=12/\(g.aD=e->g.period<=y.now)) :
  Ck 38 [S.av,.i e] (.bE [({ S.bM (S.aH.set e.toNat ⟨y,[]⟩)with aF:=S.aF.map (jG e y.now) }:bF).av,.i 0]):=by
 refine CK.hY Tryz.func38 (c:=body) (by kernel_rfl) (Cw.out) (yY.out) fun A w0 a0=>?_;intro mm w a b;rw[Tryz.ntmps38]at b;refine O.go (ev1 _ [(S.aH.length:Int),e,(S.aF.length:Int)] (vT S [.I x.now,.I y.now,.bool y.closed]) (sT S [bS x.bK,aA x.cN,bN x.aJ,aA x.bD,aA x.down,bX [y],bS y.bK,aA y.cN,bN y.aJ,aA y.bD,aA y.down]) (.d (rfl) (.d (aE B) .nil))) (xK kn) b (fd:=rF (.i e) (.i 0)) (bd:=rB S ((aX S.aH).set e.toNat [.i y.now,.c (.bool y.closed),.lit 4 (bS y.bK),.lit 1 (aA y.cN),.lit 11 (bN y.aJ),.lit 1 (aA y.bD),.lit 1 (aA y.down),.lit 8 []]) (dN S.aF)) ?_;intro mm w a b;have G:(aX S.aH).set e.toNat [.i y.now,.c (.bool y.closed),.lit 4 (bS y.bK),.lit 1 (aA y.cN),.lit 11 (bN y.aJ),.lit 1 (aA y.bD),.lit 1 (aA y.down),.lit 8 []]=aX (S.aH.set e.toNat ⟨y,[]⟩):=by simp[aX,a09];rfl
 rw[G]at b;have U:(S.aH.set e.toNat ⟨y,[]⟩).length=S.aH.length:=by simp
 have s:(S.aH.set e.toNat ⟨y,[]⟩)[e.toNat]?=some ⟨⟨y.now,y.closed,y.bK,y.cN,y.aJ,y.bD,y.down⟩,[]⟩:=by rw[a3j (by omega)]
 show _;generalize S.aH.set e.toNat ⟨y,[]⟩=f at *;clear G B;refine dQ (fun n a w=>∃(j:Nat) (c:List kJ),n=S.aF.length-j/\j<=S.aF.length/\c=(S.aF.take j).map (jG e y.now)++S.aF.drop j/\∃mm,@fD dY dZ A w0 a0 mm w a (rF (.i e) (.i (j:Int))) (fH (rB S (aX f) (dN c)))) ?_ (n:=S.aF.length) ⟨0,S.aF,rfl,a0n _,rfl,_,b⟩;rintro n a w ⟨j,c,rfl,Z,q,mm,b⟩;have X:c.length=S.aF.length:=by rw[q];simp;omega
 rcases(by omega:j=S.aF.length\/j<S.aF.length)with rfl|t
 .have q:c=S.aF.map (jG e y.now):=by rw[q];simp
  rw[<-q];refine L.go (ev1 _ [(S.aH.length:Int),e,(S.aF.length:Int)] (vT S []) [aX f,aA S.weights,aW S.methods,aW S.bT,fU S.aO,dN S.aF,eO S.aG,dN c] .nil) (xK kn) b ?_;intro mm w a b;exact M.go (ev1 _ [(S.aH.length:Int),e,(S.aF.length:Int)] (vT S []) [aX f,aA S.weights,aW S.methods,aW S.bT,fU S.aO,dN S.aF,eO S.aG,dN c] .nil) (xK kn) b
 .obtain⟨g,m⟩:∃g,S.aF[j]?=some g:=⟨_,a0f t⟩
  have u:c[j]?=some g:=by
   rw[q,a14 (by simp;omega)];simp only[a0w,a17];rw[show j-min j S.aF.length=0 by omega,a3b,a2q];exact m
  obtain⟨b1,b2,b3,R⟩:=hs g (a0a m)
  have nx:∀k,k=jG e y.now g->c.set j k=(S.aF.take (j+1)).map (jG e y.now)++S.aF.drop (j+1):=by
   rintro k rfl;have Q:S.aF.drop j=g::S.aF.drop (j+1):=by rw[<-a2x t];congr 1;exact Option.some.inj (by rw[<-a0f t,m])
   rw[q,Q,a42 _ _ (by simp;omega)];simp only[a0w,a17];rw[show j-min j S.aF.length=0 by omega,a4f,a0u,m];simp
  have z:c.set j g=c:=by
   apply a3h;intro i;rw[a0o];split
   .rename_i P
    subst P;rw[if_pos (by omega),u]
   .rfl
  have fin:∀k,k=jG e y.now g->∀mm w a,@fD dY dZ A w0 a0 mm w a (rF (.i e) (.i (1+(j:Int)))) (fH (rB S (aX f) (dN (c.set j k))))->∃n',n'<S.aF.length-j/\∃(r:Nat) (J:List kJ),n'=S.aF.length-r/\r<=S.aF.length/\J=(S.aF.take r).map (jG e y.now)++S.aF.drop r/\∃mm,@fD dY dZ A w0 a0 mm w a (rF (.i e) (.i (r:Int))) (fH (rB S (aX f) (dN J))):=by
   intro k F mm w a b;rw[show(1+(j:Int))=((j+1:Nat):Int)by omega]at b;exact⟨_,by omega,j+1,c.set j k,rfl,by omega,nx k F,mm,b⟩
  cases l:g.waits with
  |false =>
   have p:c[(j:Int).toNat]?=some ⟨g.aD,g.item,g.loc,g.eX,g.back,g.cost,g.bW,g.period,false⟩:=by rw[<-l];exact u
   refine C.go (ev1 _ [(S.aH.length:Int),e,(S.aF.length:Int),(j:Int),g.aD,g.period,y.now] (vT S [.I g.item,.I g.loc,.I g.eX,.I g.back,.I g.cost,.I g.bW,.bool y.closed]) [aX f,aA S.weights,aW S.methods,aW S.bT,fU S.aO,dN S.aF,eO S.aG,dN c,bS y.bK,aA y.cN,bN y.aJ,aA y.bD,aA y.down] (.d (aV p) (.d (aE s) .nil))) (xK kn) b (fd:=rF (.i e) (.i (1+(j:Int)))) (bd:=rB S (aX f) (dN c)) ?_;intro mm w a b;rw[<-z]at b;exact fin g (by simp[jG,l]) mm w a b
  |true =>
   have p:c[(j:Int).toNat]?=some ⟨g.aD,g.item,g.loc,g.eX,g.back,g.cost,g.bW,g.period,true⟩:=by rw[<-l];exact u
   rcases(by omega:g.aD<e\/e<g.aD\/g.aD=e)with h|h|h
   .refine D.go (ev1 _ [(S.aH.length:Int),e,(S.aF.length:Int),(j:Int),g.aD,g.period,y.now] (vT S [.I g.item,.I g.loc,.I g.eX,.I g.back,.I g.cost,.I g.bW,.bool y.closed]) [aX f,aA S.weights,aW S.methods,aW S.bT,fU S.aO,dN S.aF,eO S.aG,dN c,bS y.bK,aA y.cN,bN y.aJ,aA y.bD,aA y.down] (.d (aV p) (.d (aE s) .nil))) (xK kn) b (fd:=rF (.i e) (.i (1+(j:Int)))) (bd:=rB S (aX f) (dN c)) ?_
    intro mm w a b;rw[<-z]at b;exact fin g (by simp[jG,l];intro h';omega) mm w a b
   .refine E.go (ev1 _ [(S.aH.length:Int),e,(S.aF.length:Int),(j:Int),g.aD,g.period,y.now] (vT S [.I g.item,.I g.loc,.I g.eX,.I g.back,.I g.cost,.I g.bW,.bool y.closed]) [aX f,aA S.weights,aW S.methods,aW S.bT,fU S.aO,dN S.aF,eO S.aG,dN c,bS y.bK,aA y.cN,bN y.aJ,aA y.bD,aA y.down] (.d (aV p) (.d (aE s) .nil))) (xK kn) b (fd:=rF (.i e) (.i (1+(j:Int)))) (bd:=rB S (aX f) (dN c)) ?_
    intro mm w a b;rw[<-z]at b;exact fin g (by simp[jG,l];intro h';omega) mm w a b
   .have:=R h
    rcases(by omega:g.period<y.now\/g.period=y.now)with H|H
    .refine N.go (ev1 _ [(S.aH.length:Int),e,(S.aF.length:Int),(j:Int),g.aD,g.period,y.now] (vT S [.I g.item,.I g.loc,.I g.eX,.I g.back,.I g.cost,.I g.bW,.bool y.closed]) [aX f,aA S.weights,aW S.methods,aW S.bT,fU S.aO,dN S.aF,eO S.aG,dN c,bS y.bK,aA y.cN,bN y.aJ,aA y.bD,aA y.down] (.d (aV p) (.d (aE s) .nil))) (xK kn) b (fd:=rF (.i e) (.i (1+(j:Int)))) (bd:=rB S (aX f) (dN c)) ?_
     intro mm w a b;rw[<-z]at b;exact fin g (by simp[jG,l];intro h' W;omega) mm w a b
    .refine K.go (ev1 _ [(S.aH.length:Int),e,(S.aF.length:Int),(j:Int),g.aD,g.period,y.now] (vT S [.I g.item,.I g.loc,.I g.eX,.I g.back,.I g.cost,.I g.bW,.bool y.closed]) [aX f,aA S.weights,aW S.methods,aW S.bT,fU S.aO,dN S.aF,eO S.aG,dN c,bS y.bK,aA y.cN,bN y.aJ,aA y.bD,aA y.down] (.d (aV p) (.d (aE s) .nil))) (xK kn) b (fd:=rF (.i e) (.i (1+(j:Int)))) (bd:=rB S (aX f) ((dN c).set j [.i g.aD,.i g.item,.i g.loc,.i g.eX,.i g.back,.i 0,.i 0,.i g.period,.c (.bool true)])) ?_
     intro mm w a b;refine fin { g with cost:=0,bW:=0 } (by simp[jG,l,h,H]) mm w a ?_;rw[show dN (c.set j { g with cost:=0,bW:=0 })=(dN c).set j [.i g.aD,.i g.item,.i g.loc,.i g.eX,.i g.back,.i 0,.i 0,.i g.period,.c (.bool true)]by simp[dN,a09,kJ.row,l]];exact b
end RO
def pV (S:bF) (e:Int):bF×Int :=
 if(S.aB e).closed=false then(S,8)else
 match (S.aB e).ahead with
 |[y]=>({ S.bM (S.aH.set e.toNat ⟨y,[]⟩)with aF:=S.aF.map (jG e y.now) },0)
 |_=>(S,0)
section
variable {S:bF} {e:Int}
def Sh (G:Gn S) (x:Ix S e 0):Ck 38 [S.av,.i e] (.bE [(pV S e).1.av,.i (pV S e).2]):=by
 have h:=G.toStOk;have E:=h.mQ x;have:=E.now;have q:=x.e0;have p:=x.e1;have:=h.hn;have a:=h.at_ x;have b:=G.al _ (a0a a);have l:=G.pb;unfold pV;obtain⟨cl,j⟩:∃cl,cl=(S.aB e).closed:=⟨_,rfl⟩;have a:S.aH[e.toNat]?=some ⟨⟨(S.aB e).now,cl,(S.aB e).bK,(S.aB e).cN,(S.aB e).aJ,(S.aB e).bD,(S.aB e).down⟩,(S.aB e).ahead⟩:=by rw[j];exact a
 rw[<-j];unfold ao0 dE.sh at b;rw[<-j]at b;cases cl with
 |false=>rw[if_pos rfl];exact cw _ (ev1 { vars:=Kfg,facts:=[(KeE,1,4)],lens:=Ke3,iG:=[(0,[([0],1)],Va)] } [e,(S.aH.length:Int)] (vT S [.I (S.aB e).now]) (sT S [bS (S.aB e).bK,aA (S.aB e).cN,bN (S.aB e).aJ,aA (S.aB e).bD,aA (S.aB e).down,bX (S.aB e).ahead]) (.d (aE a) .nil)) Kcd (.bE [Keg,.i 8]) kn
 |true =>
  rw[if_neg (by simp)];obtain⟨y,k⟩:∃y,(S.aB e).ahead=[y]:=a3y.1 (by simpa using b.1);have f:=(b.2 y (by rw[k];simp)).1;dsimp only at f;rw[k]at a |-;dsimp only;by_cases t:S.aF.length=0
  .have hs:S.aF=[]:=a1f.1 t
   have r:({ S.bM (S.aH.set e.toNat ⟨y,[]⟩)with aF:=S.aF.map (jG e y.now) }:bF).av=.agg [.i S.bJ,.i S.bH,.lit 1 (aA S.weights),.lit 1 (aW S.methods),.lit 1 (aW S.bT),.lit 8 ((aX S.aH).set e.toNat [.i y.now,.c (.bool y.closed),.lit 4 (bS y.bK),.lit 1 (aA y.cN),.lit 11 (bN y.aJ),.lit 1 (aA y.bD),.lit 1 (aA y.down),.lit 8 []]),.lit 8 (fU S.aO),.lit 9 (dN S.aF),.lit 6 (eO S.aG),.i S.done]:=by
    rw[hs,show(aX S.aH).set e.toNat [.i y.now,.c (.bool y.closed),.lit 4 (bS y.bK),.lit 1 (aA y.cN),.lit 11 (bN y.aJ),.lit 1 (aA y.bD),.lit 1 (aA y.down),.lit 8 []]=aX (S.aH.set e.toNat ⟨y,[]⟩)by simp[aX,a09];rfl];rfl
   rw[r];obtain⟨X,u⟩:∃X:EntC,X=(S.aB e).toEntC:=⟨_,rfl⟩;exact cw _ (ev1 { vars:=Kfg,facts:=[(KeE,1,4)],lens:=[Kfl,(5,[]),(12,[([],1)])],iG:=[(0,[([0],1)],Vf),(12,[],VP)] } [e,(S.aH.length:Int)] (vT S [.I (S.aB e).now,.I y.now,.bool y.closed]) (sT S [bS (S.aB e).bK,aA (S.aB e).cN,bN (S.aB e).aJ,aA (S.aB e).bD,aA (S.aB e).down,bX [y],bS y.bK,aA y.cN,bN y.aJ,aA y.bD,aA y.down]) (.d (aE a) (.d (rfl) .nil))) Kcd (.bE [(sN (.seq 8 0 [([([0],1)],VP)] []) (.o 2)),.i 0]) kn
  .refine RO.walk RO.aly RO.an4 .of .of .of .of .of .of .of (x:=(S.aB e).toEntC) (y:=y) ⟨q,p⟩ h.hn (by omega) G.N9 a (by rw[f];exact E.now) ?_
   intro g n;obtain⟨b1,b2,b3,A,z,w,v,s⟩:=G.C7 g n;exact⟨b1,s.1,s.2,fun m=>by rw[f,<-m];exact l g n⟩
end
end
section
open Mc
variable {S T:bF} {item:Int}
def z58:qA 0:=⟨by simp,by simp⟩
def iK (l:List bP) (n:Int):List bP×bP:=if 0<n then((fN l n).1,(fN l n).2.1)else(l,.zero)
def xO {l:List bP} {n:Int} (h:LR l):LR (iK l n).1/\(iK l n).1.length<=l.length/\(0<=(iK l n).2.v/\(iK l n).2.v<=288230376151711744)/\qA (iK l n).2.p:=by
 unfold iK;split
 .exact⟨nL h,EC,TB h,adb h n⟩
 .exact⟨h,a0g _,⟨by simp[bP.zero],by simp[bP.zero]⟩,z58⟩
def nC (l:List bP) (d:uH):List bP×bP×bP×bP :=
 ((iK (iK (iK l d.a).1 d.b).1 d.c).1,(iK l d.a).2,(iK (iK l d.a).1 d.b).2,(iK (iK (iK l d.a).1 d.b).1 d.c).2)
def Lx {l:List bP} {d:uH} (h:LR l):LR (nC l d).1/\(nC l d).1.length<=l.length/\((0<=(nC l d).2.1.v/\(nC l d).2.1.v<=288230376151711744)/\qA (nC l d).2.1.p)/\(0<=(nC l d).2.2.1.v/\(nC l d).2.2.1.v<=288230376151711744)/\(0<=(nC l d).2.2.2.v/\(nC l d).2.2.2.v<=288230376151711744):=by
 obtain⟨j,a2,i,g⟩:=xO (n:=d.a) h;obtain⟨b1,b2,b3,o⟩:=xO (n:=d.b) j;obtain⟨f,m,e,k⟩:=xO (n:=d.c) b1;exact⟨f,by show(iK _ _).1.length<=_;omega,⟨i,g⟩,b3,e⟩
def dC (S:bF) (e item loc:Int) (x:kJ):Bool:=x.waits&&decide (x.aD=e)&&decide (x.item=item)&&decide (x.loc=loc)&&decide (x.period=(S.aB e).now)
def kJ.nil:kJ:=⟨0,0,0,0,0,0,0,0,false⟩
section
variable (P:kJ->Bool) (l:List kJ)
def zA:Nat->List Int
 |0=>[]
 |j+1=>zA j++(if P (l.getD j .nil)then[(j:Int)]else[])
def ID:Nat->List Int
 |0=>[]
 |j+1=>ID j++(if P (l.getD j .nil)then[(l.getD j .nil).eX-(l.getD j .nil).back]else[])
def smN:Nat->Bool
 |0=>false
 |j+1=>smN j||(P (l.getD j .nil)&&decide ((l.getD j .nil).back<(l.getD j .nil).eX))
def Fe (j:Nat):(zA P l j).length=(ID P l j).length:=by
 induction j with
 |zero=>rfl
 |succ j a=>simp only[zA,ID,a1o,a];split<;>rfl
def So (j:Nat):(zA P l j).length<=j:=by
 induction j with
 |zero=>simp[zA]
 |succ j a=>simp only[zA,a1o];split<;>simp<;>omega
def aca (j:Nat):∀k∈zA P l j,0<=k/\k<j:=by
 induction j with
 |zero=>intro k a;simp[zA]at a
 |succ j b =>
  intro k a;simp only[zA,a0m]at a;rcases a with a|a
  .have:=b k a;omega
  .split at a
   .simp at a;omega
   .simp at a
def aas (j:Nat) (h:∀x∈l,0<=x.back/\x.back<=x.eX/\x.eX<=1073741824) (c:j<=l.length):∀k∈ID P l j,0<=k/\k<=1073741824:=by
 induction j with
 |zero=>intro k a;simp[ID]at a
 |succ j b =>
  intro k a;simp only[ID,a0m]at a;rcases a with a|a
  .exact b (by omega) k a
  .have:=h _ (dA (d:=.nil) (show j<l.length by omega))
   split at a
   .rw[a05]at a;omega
   .simp at a
def Mi (j:Nat) (h:smN P l j=true):∃k∈ID P l j,0<k:=by
 induction j with
 |zero=>cases h
 |succ j a =>
  simp only[smN,a15,a0e,decide_eq_true_eq]at h;rcases h with h|⟨c,e⟩
  .obtain⟨k,b,d⟩:=a h
   exact⟨k,by simp only[ID];exact a36 _ b,d⟩
  .exact⟨(l.getD j .nil).eX-(l.getD j .nil).back,by simp only[ID];rw[if_pos c];simp,by omega⟩
end
def iJ (v:Int) (w:List Int):List Int×Int:=if 0<=v then eG v w else((eG (-v) w).1.map (fun x=>-x),(eG (-v) w).2)
def X8 (c:Int) (l:List Int) (h:∀x∈l,0<=x/\x<=c):eU l<=c*l.length:=by
 induction l with
 |nil=>simp[eU]
 |cons x r a =>
  have:=a fun y b=>h y (by simp[b]);have:=h x (by simp);simp only[eU,a0v,a0r,a0p]at *;rw[show c*((r.length+1:Nat):Int)=c*r.length+c by rw[a29,a1e];simp];omega
def sS {t:Int} {w:List Int} (l:0<=t/\t<=288230376151711744) (b:∀k∈w,0<=k/\k<=1073741824) (m:w.length<=40) (hs:∃k∈w,0<k):(eG t w).2=0/\(eG t w).1.length=w.length/\∀x∈(eG t w).1,0<=x/\x<=t:=by
 have h:(eG t w).2=0:=by
  unfold eG;have g:rQ t w=false:=by
   unfold rQ;obtain⟨k,e,n⟩:=hs;have j:kX t=false:=by unfold kX;simp;omega
   have a2:w.any kX=false:=by
    rw[a1t];intro x d;have:=b x d;unfold kX;simp;omega
   have i:w.any A2=true:=a1u.2 ⟨k,e,by unfold A2;simp;omega⟩;rw[j,a2,i];rfl
  have f:eB w=0:=(Eg (by have:=X8 1073741824 w b;omega)).1;rw[if_neg (by rw[g];simp),if_neg (by rw[f];simp)]
 rcases sH (t:=t) (ws:=w)with⟨_,_,_,a,c,_⟩|⟨a,_⟩
 .exact⟨h,a,c⟩
 .omega
def uR {v:Int} {w:List Int} (h:qA v) (e:∀k∈w,0<=k/\k<=1073741824) (f:w.length<=40) (hs:∃k∈w,0<k):(iJ v w).2=0/\(iJ v w).1.length=w.length/\∀x∈(iJ v w).1,qA x:=by
 unfold qA at *;unfold iJ;split
 .obtain⟨a,b,c⟩:=sS (t:=v) ⟨by omega,by omega⟩ e f hs
  exact⟨a,b,fun x d=>by have:=c x d;omega⟩
 .obtain⟨a,b,c⟩:=sS (t:=-v) ⟨by omega,by omega⟩ e f hs
  refine⟨a,by simpa using b,fun x d=>?_⟩;obtain⟨y,g,rfl⟩:=a0j.1 d;have:=c y g;omega
def mL (a c p:List Int) (l:List kJ):Nat->List kJ
 |0=>l
 |j+1=>(mL a c p l j).set (a.getD j 0).toNat { (mL a c p l j).getD (a.getD j 0).toNat .nil with cost:=c.getD j 0,bW:=p.getD j 0 }
def zK (a c p:List Int) (l:List kJ) (j:Nat):(mL a c p l j).length=l.length:=by
 induction j with
 |zero=>rfl
 |succ j b=>simp only[mL,a1d,b]
def To (e c p:List Int) (l:List kJ) (Q:kJ->Prop) (h:∀x∈l,Q x) (r:∀x∈c,qA x) (n:∀x∈p,qA x) (s:∀x a b,Q x->qA a->qA b->Q { x with cost:=a,bW:=b }) (j:Nat) (q:∀k∈e,0<=k/\k<l.length) (t:j<=e.length):∀x∈mL e c p l j,Q x:=by
 induction j with
 |zero=>exact h
 |succ j f =>
  have f:=f (by omega);intro x g;simp only[mL]at g;have u:=q _ (dA (d:=0) (show j<e.length by omega))
  have i:∀(z:List Int),(∀x∈z,qA x)->qA (z.getD j 0):=by
   intro z m;by_cases o:j<z.length
   .exact m _ (dA o)
   .rw[a0c,a04 (by omega)];exact z58
  rcases a08 g with g|rfl
  .exact f x g
  .exact s _ _ _ (f _ (dA (by rw[zK];omega))) (i c r) (i p n)
def iO (S:bF) (e item loc:Int) (x:bP):bF :=
 if smN (dC S e item loc) S.aF S.aF.length=false then S else
 { S with aF:=mL (zA (dC S e item loc) S.aF S.aF.length) (iJ x.v (ID (dC S e item loc) S.aF S.aF.length)).1 (iJ x.p (ID (dC S e item loc) S.aF S.aF.length)).1 S.aF (zA (dC S e item loc) S.aF S.aF.length).length }
def hH (S:bF) (e item loc:Int):bF×Int :=
 if((S.aB e).aU (2*item+loc)).p0+((S.aB e).aU (2*item+loc)).p1+((S.aB e).aU (2*item+loc)).p2=0 then(S,0)else
 match nC ((S.aB e).aU (2*item+loc)).aN ((S.aB e).aU (2*item+loc)).pn with
 |(l,⟨xq,xv,xp⟩,⟨h,b,i⟩,⟨d,a,g⟩) =>
 match cZ (S.aZ e ((S.aB e).bR (2*item+loc) ⟨l,0,0,0⟩)) e [⟨5,xv⟩,⟨7,b⟩,⟨8,a⟩,⟨0,-xv⟩,⟨0,-b⟩,⟨0,-a⟩]with
 |(S1,f)=>if f≠0 then(S,f)else
 match dR S1 e item [0,0,0,0,0,xv,0,0,b,a,0]with
 |(c,f)=>if f≠0 then(S,f)else(iO c e item loc ⟨xq,xv,xp⟩,0)
structure Sv (S T:bF):Prop where
 gn:Gn T
 sh:T.aH.map dE.sh=S.aH.map dE.sh
 le:T.aH.length=S.aH.length
 wt:T.weights=S.weights
 pe:T.bH=S.bH
 en:T.bJ=S.bJ
 me:T.methods=S.methods
 co:T.bT=S.bT
 dn:T.done=S.done
 rc:T.aO=S.aO
 tr:T.aG=S.aG
def Sv.refl {S:bF} (G:Gn S):Sv S S:=⟨G,rfl,rfl,rfl,rfl,rfl,rfl,rfl,rfl,rfl,rfl⟩
def Sv.trans {U:bF} (h:Sv S T) (g:Sv T U):Sv S U:=⟨g.gn,g.sh.trans h.sh,g.le.trans h.le,g.wt.trans h.wt,g.pe.trans h.pe,g.en.trans h.en,g.me.trans h.me,g.co.trans h.co,g.dn.trans h.dn,g.rc.trans h.rc,g.tr.trans h.tr⟩
def Kn.sv (k:Kn S T) (G:Gn S):Sv S T:=by
 have e:=k.eq;exact⟨k.gn G,k.sh,k.len,by rw[e];rfl,by rw[e];rfl,by rw[e];rfl,by rw[e];rfl,by rw[e];rfl,by rw[e];rfl,by rw[e];rfl,by rw[e];rfl⟩
def Sv.ix (h:Sv S T) {e:Int} (x:Ix S e item):Ix T e item:=⟨x.e0,by rw[h.le];exact x.e1,x.i0,by rw[h.wt];exact x.i1⟩
def Sv.shE (h:Sv S T) (e:Int):(T.aB e).sh=(S.aB e).sh:=by
 unfold bF.aB;rw[Ay,Ay,h.sh]
def Sv.now (h:Sv S T) (e:Int):(T.aB e).now=(S.aB e).now:=congrArg Prod.fst (h.shE e)
def Sv.cE (h:Sv S T) (e i:Int):T.cE e i=S.cE e i:=by unfold bF.cE;rw[h.me]
def aeY (G:Gn S) {e loc:Int} {x:bP} (c:(0<=x.v/\x.v<=288230376151711744)/\qA x.p):Sv S (iO S e item loc x):=by
 unfold iO;split
 .exact .refl G
 .rename_i hs
  have hs:smN (dC S e item loc) S.aF S.aF.length=true:=by simpa using hs
  have n:=G.N9;have g:=aas (dC S e item loc) S.aF S.aF.length (fun x c=>by obtain⟨_,_,_,m,l,_⟩:=G.C7 x c;omega) (a0g _);have r:=So (dC S e item loc) S.aF S.aF.length;have q:=Fe (dC S e item loc) S.aF S.aF.length;have f:=aca (dC S e item loc) S.aF S.aF.length;have d:=Mi _ _ _ hs;obtain⟨-,-,k⟩:=uR (v:=x.v) ⟨by omega,by omega⟩ g (by omega) d;obtain⟨-,-,p1⟩:=uR (v:=x.p) c.2 g (by omega) d;generalize zA (dC S e item loc) S.aF S.aF.length=A at *;generalize ID (dC S e item loc) S.aF S.aF.length=W at *;have h:=G.toStOk;refine⟨⟨⟨h.hn,h.hw,h.Nd,h.ET,h.AP,h.lS,h.mb,h.cb,h.aB,h.ahead⟩,G.NY,by show(mL _ _ _ _ _).length<=40;rw[zK];exact G.N9,G.Fo,G.Eu,?_,G.L7,G.d0,G.al,?_⟩,rfl,rfl,rfl,rfl,rfl,rfl,rfl,rfl,rfl,rfl⟩
  .exact To A _ _ _ (acn S.aH.length S.weights.length) G.C7 k p1 (fun x a b c j i=>by obtain⟨b1,b2,b3,m,l,t,s,o⟩:=c;exact⟨b1,b2,b3,m,l,j,i,o⟩) _ f (a0g _)
  .exact To A _ _ _ (fun x=>x.period<=(S.aB x.aD).now) G.pb k p1 (fun x a b c j i=>c) _ f (a0g _)
def wH (G:Gn S) {e loc:Int} (x:Ix S e item) (i:0<=loc) (l1:loc<=1) (n:S.cE e item=3):Sv S (hH S e item loc).1/\gY (hH S e item loc).2/\((hH S e item loc).2≠0->(hH S e item loc).1=S):=by
 have h:=G.toStOk;have j:=h.xV x i l1;obtain⟨k,a2,s,D,C⟩:=Lx (d:=((S.aB e).aU (2*item+loc)).pn) j.lr;unfold hH;split
 .exact⟨.refl G,⟨by simp,by simp⟩,fun h=>absurd rfl h⟩
 .generalize nC ((S.aB e).aU (2*item+loc)).aN ((S.aB e).aU (2*item+loc)).pn=r at *
  obtain⟨l,⟨xq,xv,xp⟩,⟨y,b,z⟩,⟨v,a,w⟩⟩:=r;dsimp only at *;have q0:=fQ k.ok;have c:l.length<=1:=by rcases j.one with o|o<;>omega
  have g:=gH h x i l1 (p:=⟨l,0,0,0⟩) ⟨k,.inr c,by show(0:Int)<=0;omega,by show(0:Int)<=0;omega,by show(0:Int)<=0;omega,by show(0:Int)+0+0<=qs l;omega,.inl n⟩;generalize S.aZ e ((S.aB e).bR (2*item+loc) ⟨l,0,0,0⟩)=S0 at *;obtain⟨u,e1,-⟩:=dG g.ok (g.ix x) [⟨5,xv⟩,⟨7,b⟩,⟨8,a⟩,⟨0,-xv⟩,⟨0,-b⟩,⟨0,-a⟩];generalize cZ S0 e [⟨5,xv⟩,⟨7,b⟩,⟨8,a⟩,⟨0,-xv⟩,⟨0,-b⟩,⟨0,-a⟩]=r at *;obtain⟨S1,B⟩:=r;dsimp only at *;split
  .exact⟨.refl G,e1,fun _=>rfl⟩
  .have f:=g.trans u
   obtain⟨t,q,-⟩:=eI f.ok (f.ix x) (r:=[0,0,0,0,0,xv,0,0,b,a,0]) rfl;generalize dR S1 e item [0,0,0,0,0,xv,0,0,b,a,0]=r at *;obtain⟨E,A⟩:=r;dsimp only at *;split
   .exact⟨.refl G,q,fun _=>rfl⟩
   .have m:=(f.trans t).sv G
    exact⟨m.trans (aeY m.gn s),⟨by simp,by simp⟩,fun h=>absurd rfl h⟩
def jD (S:bF) (e item:Int):bF×Int :=
 match hH S e item 0 with
 |(T,f)=>if f≠0 then(S,f)else match hH T e item 1 with
 |(U,f)=>if f≠0 then(S,f)else(U,0)
def jE (e:Int):Nat->Nat->bF->bF×Int
 |0,_,T=>(T,0)
 |n+1,j,T=>if T.cE e (j:Int)=3 then(match jD T e (j:Int)with|(U,f)=>if f≠0 then(T,f)else jE e n (j+1) U)else jE e n (j+1) T
def CA (G:Gn S) {e:Int} (x:Ix S e item) (b:S.cE e item=3):Sv S (jD S e item).1/\gY (jD S e item).2:=by
 obtain⟨a,e1,-⟩:=wH G x (loc:=0) (by omega) (by omega) b;unfold jD;generalize hH S e item 0=r at *;obtain⟨T,f⟩:=r;dsimp only at *;split
 .exact⟨.refl G,e1⟩
 .obtain⟨c,e2,-⟩:=wH a.gn (a.ix x) (loc:=1) (by omega) (by omega) (by rw[a.cE];exact b)
  generalize hH T e item 1=r at *;obtain⟨U,f⟩:=r;dsimp only at *;split
  .exact⟨.refl G,e2⟩
  .exact⟨a.trans c,⟨by simp,by simp⟩⟩
def vF (v q p:Int):Int:=if v<0\/q<0\/p<0 then 0 else if v<=q*p then 0 else v-q*p
def ajg (v q p:Int) (a:v<=288230376151711744):0<=vF v q p/\vF v q p<=288230376151711744:=by
 unfold vF;split
 .omega
 .rename_i h
  have b:0<=q*p:=a0q (by omega) (by omega);split<;>omega
def bF.qX (S:bF) (e:Int) (i:Nat):Int:=(S.aB e).bD.getD i 0
def bF.down (S:bF) (e:Int) (i:Nat):Int:=(S.aB e).down.getD i 0
def N6 (S:bF) (e:Int) (i:Nat):Int:=vF (bV S e (i:Int)).1.v (bV S e (i:Int)).1.q (S.qX e i)
def jN (S:bF) (e:Int):Nat->List cU
 |0=>[]
 |j+1=>jN S e j++(if 0<=S.qX e j then[⟨10,N6 S e j-S.down e j⟩,⟨11,-(N6 S e j-S.down e j)⟩]else[])
def mA (S:bF) (e:Int):Nat->List Int
 |0=>(S.aB e).down
 |j+1=>if 0<=S.qX e j then(mA S e j).set j (N6 S e j)else mA S e j
def Lw (l:List Int):qA (dP l):=⟨(PX l).1,(PX l).2⟩
def Lu (S:bF) (e:Int) (i:Nat):0<=N6 S e i/\N6 S e i<=288230376151711744:=ajg _ _ _ (Lw _).2
def tV (S:bF) (e:Int) (n:Nat):(mA S e n).length=(S.aB e).down.length:=by
 induction n with
 |zero=>rfl
 |succ j a=>simp only[mA];split<;>simp[a]
def LG {e:Int} (h:∀v∈(S.aB e).down,0<=v/\v<=M58) (n:Nat):∀v∈mA S e n,0<=v/\v<=M58:=by
 induction n with
 |zero=>exact h
 |succ j b =>
  intro v a;simp only[mA]at a;split at a
  .rcases a08 a with a|rfl
   .exact b v a
   .exact Lu S e j
  .exact b v a
def TO (S:bF) (e:Int) (n:Nat):(mA S e n).getD n 0=S.down e n:=by
 have go:∀(k:Nat),k<=n->(mA S e k).getD n 0=S.down e n:=by
  intro k;induction k with
  |zero=>intro _;rfl
  |succ j a =>
   intro b;simp only[mA];split
   .rw[a0c,a0o,if_neg (by omega),<-a0c];exact a (by omega)
   .exact a (by omega)
 exact go n (a0g _)
def M5 (S:bF) (e:Int) (n:Nat):(jN S e n).length<=2*n:=by
 induction n with
 |zero=>simp[jN]
 |succ j a=>simp only[jN,a1o];split<;>simp<;>omega
def aj8 {e:Int} (h:∀v∈(S.aB e).down,0<=v/\v<=M58) (n:Nat):∀x∈jN S e n,(0<=x.a/\x.a<=100)/\(-4611686018427387904<=x.n/\x.n<=4611686018427387904):=by
 induction n with
 |zero=>intro x b;simp[jN]at b
 |succ j c =>
  intro x b;simp only[jN,a0m]at b;rcases b with b|b
  .exact c x b
  .have b1:=Lu S e j
   have b2:0<=S.down e j/\S.down e j<=288230376151711744:=by
    unfold bF.down;by_cases d:j<(S.aB e).down.length
    .exact h _ (dA d)
    .rw[a0c,a04 (by omega)];simp
   split at b
   .simp only[a0d,a0b,or_false]at b
    rcases b with rfl|rfl
    .exact⟨by simp,by dsimp only;omega⟩
    .exact⟨by simp,by dsimp only;omega⟩
   .simp at b
def dE.uT (x:dE) (l:List Int):dE:={ x with down:=l }
def oP (S:bF) (e:Int):bF×Int :=
 match cZ (S.aZ e ((S.aB e).uT (mA S e S.weights.length))) e (jN S e S.weights.length)with
 |(T,f)=>if f≠0 then(S,f)else(T,0)
def LU (h:StOk S) {e:Int} (x:Ix S e item) {l:List Int} (a:l.length=(S.aB e).down.length) (b:∀v∈l,0<=v/\v<=M58):Kn S (S.aZ e ((S.aB e).uT l)):=by
 have E:=h.mQ x;exact⟨Kin.aZ (h.aZ x.e0 ⟨E.pl,E.ok,E.bl,E.bb,E.rl,E.rr,E.pr,E.prb,by show l.length=_;rw[a];exact E.dl,b,E.now⟩ (h.ahead _ (a0a (h.at_ x)) _ (h.at_ x))),pJ x rfl⟩
def EM (G:Gn S) {e:Int} (x:Ix S e item):Kn S (oP S e).1/\gY (oP S e).2:=by
 have h:=G.toStOk;have E:=h.mQ x;have K:=LU h x (tV S e S.weights.length) (LG E.db _);unfold oP;obtain⟨a,e1,-⟩:=dG K.ok (K.ix x) (jN S e S.weights.length);generalize cZ (S.aZ e ((S.aB e).uT (mA S e S.weights.length))) e (jN S e S.weights.length)=r at *;obtain⟨T,f⟩:=r;dsimp only at *;split
 .exact⟨.refl h,e1⟩
 .exact⟨K.trans a,⟨by simp,by simp⟩⟩
def pK {e:Int}:∀(n j:Nat) (S:bF),Gn S->(0<=e/\e<S.aH.length)->n+j<=S.weights.length->Sv S (jE e n j S).1/\gY (jE e n j S).2
 |0,_,S,G,_,_=>⟨.refl G,by show gY 0;exact⟨by simp,by simp⟩⟩
 |n+1,j,S,G,a,g=>by
  unfold jE;split
  .rename_i d
   obtain⟨b,e1⟩:=CA G (e:=e) (item:=(j:Int)) ⟨a.1,a.2,by omega,by omega⟩ d;generalize jD S e (j:Int)=r at *;obtain⟨U,f⟩:=r;dsimp only at *;split
   .exact⟨.refl G,e1⟩
   .obtain⟨c,e2⟩:=pK n (j+1) U b.gn ⟨a.1,by rw[b.le];exact a.2⟩ (by rw[b.wt];omega)
    exact⟨b.trans c,e2⟩
  .exact pK n (j+1) S G a (by omega)
def dE.shut (x:dE) (y:EntC):dE:={ x with closed:=true,ahead:=[y] }
def iZ (S:bF) (e:Int):bF×Int :=
 if(S.aB e).closed=true then(S,7)else
 match jE e S.weights.length 0 S with
 |(T,f)=>if f≠0 then(S,f)else
 match oP T e with
 |(U,f)=>if f≠0 then(S,f)else(U.aZ e ((U.aB e).shut (S.aB e).toEntC),0)
def uA (G:Gn S) {e:Int} (x:Ix S e 0):oD S (iZ S e):=by
 have h:=G.toStOk;unfold iZ;split
 .exact oD.bad G ⟨by simp,by simp⟩
 .rename_i l
  obtain⟨i,e1⟩:=pK S.weights.length 0 S G ⟨x.e0,x.e1⟩ (by omega);generalize jE e S.weights.length 0 S=r at *;obtain⟨T,f⟩:=r;dsimp only at *;split
  .exact oD.bad G e1
  .obtain⟨k,e2⟩:=EM i.gn (i.ix x)
   generalize oP T e=r at *;obtain⟨U,f⟩:=r;dsimp only at *;split
   .exact oD.bad G e2
   .have a:=i.trans (k.sv i.gn)
    clear i k e1 e2;have E:=a.gn.toStOk.mQ (a.ix x)
    have m:=h.mQ x;have hs:=a.gn.toStOk.aZ (e:=e) (x:=(U.aB e).shut (S.aB e).toEntC) x.e0 ⟨E.pl,E.ok,E.bl,E.bb,E.rl,E.rr,E.pr,E.prb,E.dl,E.db,E.now⟩ (fun y d=>by
     rw[show((U.aB e).shut (S.aB e).toEntC).ahead=[(S.aB e).toEntC]from rfl,a05]at d;subst d;rw[a.wt,a.me];exact m)
    have g:(U.aZ e ((U.aB e).shut (S.aB e).toEntC)).aH.length=U.aH.length:=(by simp[bF.aZ]);have c:=a.gn;have j:=a.now e;refine⟨⟨hs,c.NY,c.N9,c.Fo,by rw[g];exact c.Eu,by rw[g];exact c.C7,by rw[g];exact c.L7,c.d0,?_,?_⟩,⟨by simp,by simp⟩,fun h=>absurd rfl h,by rw[g,a.le],a.wt,a.pe,a.en,a.me,a.dn⟩
    .intro y d
     rcases a08 d with d|rfl
     .exact c.al y d
     .refine⟨rfl,fun y d=>?_⟩
      rw[show((U.aB e).shut (S.aB e).toEntC).sh.2.2=[(S.aB e).toEntC]from rfl,a05]at d;subst d;exact⟨j.symm,by simpa using l⟩
    .intro s hs
     have p:=c.pb s hs;have b:=(c.C7 s hs).1;show s.period<=((U.aH.set e.toNat ((U.aB e).shut (S.aB e).toEntC)).getD s.aD.toNat dE.nil).now;rw[a0c,a0o];split
     .rename_i n
      have e2:s.aD=e:=by have:=x.e0;omega
      rw[if_pos (by have:=x.e0;have:=x.e1;have:=a.le;omega)];rw[e2]at p;exact p
     .unfold bF.aB at p
      rw[a0c]at p;exact p
end
section
open Mc
section
variable {S:bF} {e:Int}
def aj3 (G:Gn S) (x:Ix S e 0) (j:(S.aB e).now<12):Gn (S.aZ e (A8 S e)):=by
 have h:=G.toStOk;have E:=h.mQ x;have g:NX S.weights.length (S.methods.getD e.toNat []) (A8 S e).toEntC:=by
  refine⟨E.pl,E.ok,E.bl,E.bb,by simp[A8],?_,E.pr,E.prb,E.dl,E.db,?_⟩
  .intro r f
   obtain⟨i,k,rfl⟩:=a0j.1 f;refine⟨rfl,fun v d=>?_⟩
   simp only[mG,a0d,a0b,or_false]at d;have z:qA 0:=⟨by simp,by simp⟩;rcases d with rfl|rfl|rfl|rfl|rfl|rfl|rfl|rfl|rfl|rfl|rfl
   .exact Lw _
   all_goals exact z
  .have:=E.now
   show 1<=1+(S.aB e).now/\1+(S.aB e).now<=12;omega
 have hs:=h.aZ x.e0 g (fun y a=>by cases a);have c:(S.aZ e (A8 S e)).aH.length=S.aH.length:=by simp[bF.aZ]
 refine⟨hs,G.NY,G.N9,G.Fo,by rw[c];exact G.Eu,by rw[c];exact G.C7,by rw[c];exact G.L7,G.d0,?_,?_⟩
 .intro y a
  rcases a08 a with a|rfl
  .exact G.al y a
  .exact⟨rfl,fun y a=>by cases a⟩
 .intro s hs
  have p:=G.pb s hs;have b:=(G.C7 s hs).1;show s.period<=((S.aH.set e.toNat (A8 S e)).getD s.aD.toNat dE.nil).now;rw[a0c,a0o];split
  .rename_i l
   have e2:s.aD=e:=by have:=x.e0;omega
   rw[if_pos (by have:=x.e0;have:=x.e1;omega)];rw[e2]at p;show s.period<=1+(S.aB e).now;omega
  .unfold bF.aB at p
   rw[a0c]at p;exact p
def aeo (G:Gn S) (x:Ix S e 0) {y:EntC} (a:(S.aB e).ahead=[y]):Gn { S.bM (S.aH.set e.toNat ⟨y,[]⟩)with aF:=S.aF.map (jG e y.now) }:=by
 have h:=G.toStOk;have i:=h.at_ x;have t:=a0a i;have w:=h.ahead _ t _ i y (by rw[a];simp);obtain⟨H,a2⟩:=G.al _ t;obtain⟨v,u⟩:=a2 y (by show y∈(S.aB e).ahead;rw[a];simp);have hs:=h.aZ (x:=⟨y,[]⟩) x.e0 w (fun y a=>by cases a);have g:(S.aH.set e.toNat ⟨y,[]⟩).length=S.aH.length:=by simp
 have n:∀s:kJ,(jG e y.now s).aD=s.aD/\(jG e y.now s).item=s.item/\(jG e y.now s).loc=s.loc/\(jG e y.now s).eX=s.eX/\(jG e y.now s).back=s.back/\(jG e y.now s).period=s.period/\((jG e y.now s).cost=s.cost\/(jG e y.now s).cost=0)/\((jG e y.now s).bW=s.bW\/(jG e y.now s).bW=0):=by
  intro s;unfold jG;split<;>simp
 refine⟨⟨hs.hn,hs.hw,hs.Nd,hs.ET,hs.AP,hs.lS,hs.mb,hs.cb,hs.aB,hs.ahead⟩,G.NY,by show(S.aF.map _).length<=40;simp;exact G.N9,G.Fo,by show ∀x∈_,afv (S.aH.set _ _).length _ x;rw[g];exact G.Eu,?_,by show ∀x∈_,afu (S.aH.set _ _).length _ x;rw[g];exact G.L7,G.d0,?_,?_⟩
 .show ∀x∈_,acn (S.aH.set _ _).length _ x
  rw[g];intro s hs;obtain⟨s,f,rfl⟩:=a0j.1 hs;clear hs;have hs:=f;obtain⟨b1,b2,b3,E,D,C,B,A⟩:=G.C7 s hs;obtain⟨l,r,q,k,o,j,d,c⟩:=n s;have z:qA 0:=⟨by simp,by simp⟩;refine⟨by rw[l];exact b1,by rw[r];exact b2,by rw[q];exact b3,by rw[k];exact E,by rw[o,k];exact D,?_,?_,by rw[j];exact A⟩
  .rcases d with d|d<;>rw[d]
   .exact C
   .exact z
  .rcases c with c|c<;>rw[c]
   .exact B
   .exact z
 .intro z m
  rcases a08 m with m|rfl
  .exact G.al z m
  .refine⟨?_,fun y a=>by cases a⟩
   show(0:Nat)=if y.closed then 1 else 0
   rw[u];rfl
 .intro s hs
  obtain⟨s,f,rfl⟩:=a0j.1 hs;clear hs;have hs:=f;obtain⟨l,r,q,k,o,j,d,c⟩:=n s;have p:=G.pb s hs;have b:=(G.C7 s hs).1;rw[j,l];show s.period<=((S.aH.set e.toNat ⟨y,[]⟩).getD s.aD.toNat dE.nil).now;rw[a0c,a0o];split
  .rename_i F
   have e2:s.aD=e:=by have:=x.e0;omega
   rw[if_pos (by have:=x.e0;have:=x.e1;omega)];rw[e2]at p;show s.period<=y.now;rw[v];exact p
  .unfold bF.aB at p
   rw[a0c]at p;exact p
end
end
section
open Mc
def Tj (a:Option Addr) (cap:Nat) (ws:List Int) (t:Int) (w:World) (h:Row w 1 a ws.length cap ws) (q:ws.length<=1000000) (o:kS t) (c:rQ t ws=false) (b:eB ws=0) :
  Calls Tryz.prog 90 #[.int .i64 t,.slice a ws.length cap] w fun e w'=>∃g mX,e=.returned (.tuple #[.slice (some ⟨g,0,none⟩) ws.length mX,.int .i64 0])/\ws.length<=mX/\mX<=maxLen/\g<w'.heap.size/\w.heap.size<=g/\cD w' g 0 (eG t ws).1/\(∀i,w'.frozen? ⟨g,i,none⟩=false)/\Below w.heap.size w w':=by
 have p:=LF (key:=vP (iW t (dP ws) ws)) (List.range ws.length);refine(OZ a cap ws (Of (vP (iW t (dP ws) ws)) (List.range ws.length)) t w h q o (fun _ _=>p)).mono ?_;rintro e w' ⟨k,r⟩;rw[if_neg (by rw[c];simp),if_neg (by rw[b];simp)]at k;obtain⟨g,mX,rfl,n,m,l,j,f,d⟩:=k;refine⟨g,mX,rfl,n,m,l,j,?_,d,r⟩;unfold eG;rw[if_neg (by rw[c];simp),if_neg (by rw[b];simp)];exact f
def Om (A:List Int) (k:Nat):List Int:=(A.take k).map (fun x=>-x)++A.drop k
def TM (A:List Int) (k:Nat) (h:k<=A.length):(Om A k).length=A.length:=by simp[Om];omega
def ahp (A:List Int) (k:Nat) (h:k<A.length):(Om A k).getD k 0=A.getD k 0:=by
 unfold Om;rw[a0c,a0c,a14 (by simp;omega)];simp only[a0w,a17];rw[show k-min k A.length=0 by omega,a3b];rfl
def aho (A:List Int) (k:Nat) (h:k<A.length):(Om A k).set k (-(A.getD k 0))=Om A (k+1):=by
 unfold Om;have a:A.getD k 0=A[k]:=by rw[a0c,a0f h];rfl
 rw[a42 _ _ (by simp;omega)];simp only[a0w,a17];rw[show k-min k A.length=0 by omega,a38 h,a4f,a0u,a0f h,a];show(A.take k).map _++(-A[k]::A.drop (k+1))=(A.take k++[A[k]]).map _++_;rw[a03,a3e];rfl
def MC (a:Option Addr) (cap:Nat) (ws:List Int) (v:Int) (w:World) (h:Row w 1 a ws.length cap ws) (O:ws.length<=1000) (X:v<0) (S:-288230376151711744<=v) (m:rQ (-v) ws=false) (C:eB ws=0) :
  Calls Tryz.prog 181 #[.int .i64 v,.slice a ws.length cap] w fun e w'=>∃g mX,e=.returned (.tuple #[.slice (some ⟨g,0,none⟩) ws.length mX,.int .i64 0])/\ws.length<=mX/\mX<=maxLen/\g<w'.heap.size/\w.heap.size<=g/\cD w' g 0 ((eG (-v) ws).1.map (fun x=>-x))/\Below w.heap.size w w':=by
 have s:=Tj a cap ws (-v) w h (by omega) ⟨by omega,by omega⟩ m C;obtain⟨A,E⟩:∃A,(eG (-v) ws).1=A:=⟨_,rfl⟩
 have b:A.length=ws.length/\∀x∈A,0<=x/\x<=288230376151711744:=by
  rcases sH (t:=-v) (ws:=ws)with⟨_,_,_,l,o,_⟩|⟨l,_⟩
  .rw[E]at l o
   exact⟨l,fun x q=>by have:=o x q;omega⟩
  .exfalso
   unfold eG at l;rw[if_neg (by rw[m];simp),if_neg (by rw[C];simp)]at l;simp at l
 rw[E]at s |-;obtain⟨n,I⟩:∃n,ws.length=n:=⟨_,rfl⟩;rw[I]at s b O |-;have R:IntKind.i64.wrap (-v)=-v:=IntWalk.i64_in _ (by omega);have G:=Lib.hid b;have H:=Lib.hid s;clear h m C E I b s;go_enter Tryz.func181,Tryz.ntmps181;go_wp2_with (go_at_call 90;refine H.out.mono ?_;rintro e W ⟨g,mX,rfl,l,o,N,M,z,L,Q⟩;unfold maxLen at o);go_loopw [8] (fun i wr=>∃k:Nat,k<=n/\i=.int .i64 (k:Int)/\cD wr g 0 (Om A k)/\(∀i,wr.frozen? ⟨g,i,none⟩=false)/\g<wr.heap.size/\Below w.heap.size w wr) (fun i _=>n-(intOf i).toNat)
 case atStart=>exact⟨0,by omega,rfl,z,L,N,Q⟩
 case round =>
  obtain⟨k,Y,rfl,c,J,lt,m⟩:=hrel;obtain⟨F,b⟩:=G.out;by_cases T:k<n
  .have P:(k:Int)<(n:Int):=by omega
   have U:(0:Int)<=(k:Int):=(by omega);have K:=c k (by rw[TM _ _ (by omega)];omega);rw[a02,ahp _ _ (by omega)]at K;have f:=cD.put c (j:=k) (by rw[TM _ _ (by omega)];omega) (-(A.getD k 0));rw[a02,aho _ _ (by omega)]at f;have q:=b _ (dA (d:=0) (show k<A.length by omega));obtain⟨x,u⟩:∃x,A.getD k 0=x:=⟨_,rfl⟩;rw[u]at K f q;have f0:=J k;have V:IntKind.i64.wrap (-x)=-x:=IntWalk.i64_in _ (by omega);have y:∀i,(wr.setCell ⟨g,k,none⟩ (.int .i64 (-x))).frozen? ⟨g,i,none⟩=false:=fun i=>by rw[World.frozen?_setCell];exact J i
   have D:Below w.heap.size w (wr.setCell ⟨g,k,none⟩ (.int .i64 (-x))):=m.setCell (p:=⟨g,k,none⟩) (by simp only;omega) _;have r:=Lib.hid f;have B:=Lib.hid y;clear F b u f y q c z;go_wp2_with fail
   case' roundEnd =>
    refine⟨⟨k+1,by omega,by go_num,r.out,B.out,by simpa[World.setCell]using lt,D⟩,?_⟩;simp[intOf];omega
  .obtain rfl:k=n:=by omega
   have Z:¬ (k:Int)<(k:Int):=(by omega);have e:Om A k=A.map (fun x=>-x):=by unfold Om;rw[a1l (by omega),a4t (by omega),a1r]
   rw[e]at c;have ch:=Lib.hid c;clear e F b c z;go_wp2_with fail;go_ret2;exact⟨g,mX,rfl,l,by unfold maxLen;exact o,lt,M,ch.out,m⟩
def Fb {v:Int} {ws:List Int} (d:qA v) (b:∀k∈ws,0<=k/\k<=1073741824) (s:ws.length<=40) (hs:∃k∈ws,0<k):Ck 181 [.i v,.lit 1 (aA ws)] (.bE [.lit 1 (aA (iJ v ws).1),.i 0]):=by
 have y:fM ws:=fun k J=>by have:=b k J;exact⟨by omega,by omega⟩
 by_cases m:0<=v
 .have u:=I5 (t:=v) (ws:=ws) ⟨by omega,by omega⟩ y (by omega)
  obtain⟨n,D,U⟩:=sS (t:=v) (w:=ws) ⟨m,d.2⟩ b s hs;rw[n]at u;have e:(iJ v ws).1=(eG v ws).1:=by unfold iJ;rw[if_pos m]
  rw[e];generalize (eG v ws).1=C at *;have N:=d.2;exact cw _ (ev1 { vars:=[KdO],bQ:=[(90,[.v 0,.q 1 0],(.bE [.q 1 1,.i 0]))] } [v] [] [aA ws,aA C] .nil) [.v 0,.q 1 0] (.bE [.q 1 1,.i 0]) (kc u kn)
 .obtain⟨M,n,D⟩:rQ (-v) ws=false/\eB ws=0/\(eG (-v) ws).1.length=ws.length:=by
   have O:=d.1;obtain⟨h,E,S⟩:=sS (t:=-v) (w:=ws) ⟨by omega,by omega⟩ b s hs;refine⟨?_,(Eg (by have:=X8 1073741824 ws b;omega)).1,E⟩;cases l:rQ (-v) ws with
   |false=>rfl
   |true=>unfold eG at h;rw[if_pos l]at h;cases h
  have e:(iJ v ws).1=(eG (-v) ws).1.map (fun x=>-x):=by unfold iJ;rw[if_neg m]
  rw[e];refine⟨bL (.c _) (bL (kV _).lit fW),.bE _ (bL (kV _).lit (bL (.c _) fW)),?_⟩;intro A w vs K T r f;have p:=SM r;have z:=f 0 _ rfl;generalize vs.getD 0 Go.undef=Q at *;have L:=f 1 _ rfl;generalize vs.getD 1 Go.undef=P at *;subst p;cases z;obtain⟨a,cap,rfl,R⟩:=LK L y;refine(MC a cap ws v w R (by omega) (by omega) d.1 M n).mono ?_;rintro e w' ⟨g,mX,rfl,o,I,H,G,F,l⟩;refine⟨_,rfl,mK ?_ qD,l⟩;have j:((eG (-v) ws).1.map (fun x=>-x)).length=ws.length:=by rw[a0w];exact D
  generalize (eG (-v) ws).1.map (fun x=>-x)=B at *;rw[<-j]at o |-;exact T7 K o I (.inr ⟨g,0,rfl,G,H,F⟩)
def ams (b:Bk) (fi:List AV) (bi:List Mc.dI) (i:Nat) (ids:pZ) (fo:List AV) (bo:List Mc.dI):Bool :=
 (fi.all (sI b bi.length)&&bi.all (bI b bi.length))&&match fi[i]? with
 |some x=>(match wA (fH bi) 16 x with
  |some (y,a)=>LQ (A3 ids) (fi.set i y) fo&&XR ids (fZ (fH bi) (a.map fun id=>(id,dI.dead))) ids bo&&ndC ids&&(fo.all (sO bo.length)&&bo.all (bO bo.length))
  |none=>false)
 |none=>false
def ai4 (b:Bk) (fi:List AV) (bi:List Mc.dI) (i:Nat) (ids:pZ) (fo:List AV) (bo:List Mc.dI):Prop:=ams b fi bi i ids fo bo=true
section
variable {b:Bk} {ev:@Ev b} {A:Nat->Prop} {w0:World} {a0:Act} {mm:Nat->St} {w:World} {a:Act} {fi fo fc fd:List AV} {bi bo bc bd:List Mc.dI} {ids:pZ} {i:Nat}
def fD.TZ [Bk] [Ev] {m:Nat->St} {f:List AV} {h:AH} (g:fD A w0 a0 m w a f h) {x y:AV} {c:List Nat} (l:f[i]?=some x) (j:wA h 16 x=some (y,c)) :
  fD A w0 a0 (nX m c) w a (f.set i y) (fZ h (c.map fun id=>(id,dI.dead))):=by
 obtain⟨E,H,F,N⟩:=g;obtain⟨o,e⟩:=H.TZ c;refine⟨E.trans e,o,?_,N⟩;have d:=F.ext e;refine⟨by rw[a1d];exact d.size,?_,d.defers⟩;intro k z b;rw[a0o]at b;split at b
 .rename_i n
  subst n;split at b
  .cases b
   exact .pure _ _ (Ij H c j (fun id h=>h) (F.rd _ _ l))
  .cases b
 .exact d.rd k z b
def ai4.go (s:ai4 b fi bi i ids fo bo) (ev:@Ev b) (f:@fD dY dZ A w0 a0 mm w a fc (fH bc))
  (q:fi.map (@lH b ev)=fc:=by rfl) (eb:bi.map (@vR b ev)=bc:=by rfl) (p:fo.map (@lH b ev)=fd:=by rfl) (o:bo.map (@vR b ev)=bd:=by rfl) (g:b.mT=[]:=by rfl):∃mm,@fD dY dZ A w0 a0 mm w a fd (fH bd):=by
 unfold ai4 ams at s;rw[a0e]at s;obtain⟨h,c⟩:=s;obtain⟨k,f⟩:=uU b ev f q eb h g;split at c
 .rename_i x n
  split at c
  .rename_i y l m
   simp only[a0e]at c;have e:=@fD.TZ A w0 a0 w a i b ev k fi (fH bi) f x y l n m;obtain⟨j,d⟩:=Tq b ev (fD.to (ids:=ids) e (FH c.1.1.1) (NC e.rel.scs c.1.1.2) (ahq c.1.2) g) (by rw[a0e];exact c.2);rw[p,o]at d;exact⟨j,d⟩
  .cases c
 .cases c
end
end
section
open Mc
section
variable {S:bF} {e item loc:Int}
def XF (G:Gn S) (X:Ix S e item) (C:-2<=loc) (l1:loc<=3) {g:kJ} (z:g∈S.aF):Ck 180 [S.av,.agg g.row,.i e,.i item,.i loc] (.c (.bool (dC S e item loc g))):=by
 have h:=G.toStOk;have E:=h.mQ X;have:=h.hn;have:=h.hw;have:=X.e0;have:=X.e1;have:=X.i0;have:=X.i1;obtain⟨b1,b2,b3,K,J,H,F,D⟩:=G.C7 g z;have a:=h.at_ X;obtain⟨x,r⟩:∃x,x=S.aB e:=⟨_,rfl⟩;have a:S.aH[e.toNat]?=some ⟨⟨x.now,x.closed,x.bK,x.cN,x.aJ,x.bD,x.down⟩,x.ahead⟩:=by rw[r];exact a
 have y:=E.now;rw[<-r]at y;have fin:∀b,dC S e item loc g=b->Ck 180 [S.av,.agg g.row,.i e,.i item,.i loc] (.c (.bool b))->Ck 180 [S.av,.agg g.row,.i e,.i item,.i loc] (.c (.bool (dC S e item loc g))):=fun b A h=>by rw[A];exact h
 unfold dC at fin |-;rw[<-r]at fin |-;obtain⟨k,j,f,m,q,p,n,l,B⟩:=g;dsimp only at *;cases B with
 |false=>exact fin false rfl (cw _ (ev1 { vars:=V9,facts:=Kct,lens:=KeY,iG:=UV } [(S.aH.length:Int),e,item,loc,x.now,k,j,f,l] (vT S [.I x.now,.bool x.closed,.I m,.I q,.I p,.I n]) (sT S [bS x.bK,aA x.cN,bN x.aJ,aA x.bD,aA x.down,bX x.ahead]) (.d (aE a) .nil)) [Keg,(.agg [.v 5,.v 6,.v 7,.o 5,.o 6,.o 7,.o 8,.v 8,Kev]),.v 1,.v 2,.v 3] Kev kn)
 |true =>
  rcases(by omega:k<e\/e<k\/k=e)with w|w|w
  .exact fin false (by simp;omega) (cw _ (ev1 { vars:=V9,facts:=[Kc0,([([1],-1),([5],1)],-200,-1)],lens:=KeY,iG:=UV } [(S.aH.length:Int),e,item,loc,x.now,k,j,f,l] (vT S [.I x.now,.bool x.closed,.I m,.I q,.I p,.I n]) (sT S [bS x.bK,aA x.cN,bN x.aJ,aA x.bD,aA x.down,bX x.ahead]) (.d (aE a) .nil)) QW Kev kn)
  .exact fin false (by simp;omega) (cw _ (ev1 { vars:=V9,facts:=[Kc0,([([1],-1),([5],1)],1,200)],lens:=KeY,iG:=UV } [(S.aH.length:Int),e,item,loc,x.now,k,j,f,l] (vT S [.I x.now,.bool x.closed,.I m,.I q,.I p,.I n]) (sT S [bS x.bK,aA x.cN,bN x.aJ,aA x.bD,aA x.down,bX x.ahead]) (.d (aE a) .nil)) QW Kev kn)
  rcases(by omega:j<item\/item<j\/j=item)with u|u|u
  .exact fin false (by simp;omega) (cw _ (ev1 { vars:=V9,facts:=[Kc0,Kc1,([([2],-1),([6],1)],-200,-1)],lens:=KeY,iG:=UV } [(S.aH.length:Int),e,item,loc,x.now,k,j,f,l] (vT S [.I x.now,.bool x.closed,.I m,.I q,.I p,.I n]) (sT S [bS x.bK,aA x.cN,bN x.aJ,aA x.bD,aA x.down,bX x.ahead]) (.d (aE a) .nil)) QW Kev kn)
  .exact fin false (by simp;omega) (cw _ (ev1 { vars:=V9,facts:=[Kc0,Kc1,([([2],-1),([6],1)],1,200)],lens:=KeY,iG:=UV } [(S.aH.length:Int),e,item,loc,x.now,k,j,f,l] (vT S [.I x.now,.bool x.closed,.I m,.I q,.I p,.I n]) (sT S [bS x.bK,aA x.cN,bN x.aJ,aA x.bD,aA x.down,bX x.ahead]) (.d (aE a) .nil)) QW Kev kn)
  rcases(by omega:f<loc\/loc<f\/f=loc)with t|t|t
  .exact fin false (by simp;omega) (cw _ (ev1 { vars:=V9,facts:=[Kc0,Kc1,Kc2,(KeC,-200,-1)],lens:=KeY,iG:=UV } [(S.aH.length:Int),e,item,loc,x.now,k,j,f,l] (vT S [.I x.now,.bool x.closed,.I m,.I q,.I p,.I n]) (sT S [bS x.bK,aA x.cN,bN x.aJ,aA x.bD,aA x.down,bX x.ahead]) (.d (aE a) .nil)) QW Kev kn)
  .exact fin false (by simp;omega) (cw _ (ev1 { vars:=V9,facts:=[Kc0,Kc1,Kc2,(KeC,1,200)],lens:=KeY,iG:=UV } [(S.aH.length:Int),e,item,loc,x.now,k,j,f,l] (vT S [.I x.now,.bool x.closed,.I m,.I q,.I p,.I n]) (sT S [bS x.bK,aA x.cN,bN x.aJ,aA x.bD,aA x.down,bX x.ahead]) (.d (aE a) .nil)) QW Kev kn)
  rcases(by omega:l<x.now\/x.now<l\/l=x.now)with s|s|s
  .exact fin false (by simp;omega) (cw _ (ev1 { vars:=V9,facts:=[Kc0,Kc1,Kc2,KcY,([([4],-1),([8],1)],-200,-1)],lens:=KeY,iG:=UV } [(S.aH.length:Int),e,item,loc,x.now,k,j,f,l] (vT S [.I x.now,.bool x.closed,.I m,.I q,.I p,.I n]) (sT S [bS x.bK,aA x.cN,bN x.aJ,aA x.bD,aA x.down,bX x.ahead]) (.d (aE a) .nil)) QW Kev kn)
  .exact fin false (by simp;omega) (cw _ (ev1 { vars:=V9,facts:=[Kc0,Kc1,Kc2,KcY,([([4],-1),([8],1)],1,200)],lens:=KeY,iG:=UV } [(S.aH.length:Int),e,item,loc,x.now,k,j,f,l] (vT S [.I x.now,.bool x.closed,.I m,.I q,.I p,.I n]) (sT S [bS x.bK,aA x.cN,bN x.aJ,aA x.bD,aA x.down,bX x.ahead]) (.d (aE a) .nil)) QW Kev kn)
  .exact fin true (by simp[w,u,t,s]) (cw _ (ev1 { vars:=V9,facts:=[Kc0,Kc1,Kc2,KcY,([([4],-1),([8],1)],0,0)],lens:=KeY,iG:=UV } [(S.aH.length:Int),e,item,loc,x.now,k,j,f,l] (vT S [.I x.now,.bool x.closed,.I m,.I q,.I p,.I n]) (sT S [bS x.bK,aA x.cN,bN x.aJ,aA x.bD,aA x.down,bX x.ahead]) (.d (aE a) .nil)) QW KeF kn)
end
def Sj {L:List bP} {p0 p1 p2:Int} (h:LR L) (P:0<=p0/\p0<=288230376151711744) (h1:0<=p1/\p1<=288230376151711744) (D:0<=p2/\p2<=288230376151711744) :
  Ck 122 [cY.av ⟨L,p0,p1,p2⟩] (.bE [cY.av ⟨(nC L ⟨p0,p1,p2⟩).1,0,0,0⟩,.agg [.i (nC L ⟨p0,p1,p2⟩).2.1.q,.i (nC L ⟨p0,p1,p2⟩).2.1.v,.i (nC L ⟨p0,p1,p2⟩).2.1.p,.i (nC L ⟨p0,p1,p2⟩).2.2.1.q,.i (nC L ⟨p0,p1,p2⟩).2.2.1.v,.i (nC L ⟨p0,p1,p2⟩).2.2.1.p,.i (nC L ⟨p0,p1,p2⟩).2.2.2.q,.i (nC L ⟨p0,p1,p2⟩).2.2.2.v,.i (nC L ⟨p0,p1,p2⟩).2.2.2.p]]):=by
 obtain⟨p,N,K⟩:∃M X,iK L p0=(M,X):=⟨_,_,rfl⟩;obtain⟨m,H,e1⟩:∃M X,iK p p1=(M,X):=⟨_,_,rfl⟩;obtain⟨A,z,e2⟩:∃M X,iK m p2=(M,X):=⟨_,_,rfl⟩;have hs:nC L ⟨p0,p1,p2⟩=(A,N,H,z):=by simp only[nC,K,e1,e2]
 rw[hs];dsimp only
 have st:∀(M:List bP) (n:Int) (B:List bP) (X:bP),LR M->0<=n/\n<=288230376151711744->iK M n=(B,X)->(n=0/\M=B/\X=.zero)\/(0<n/\LR B/\∃f,Ck 215 [.lit 3 (aM M),.i n] (.bE [.lit 3 (aM B),X.av,.i f])):=by
  intro M n B X J Q C;unfold iK at C;split at C
  .cases C
   exact .inr ⟨‹_›,nL J,_,PC J ⟨by omega,by omega⟩⟩
  .cases C
   exact .inl ⟨by omega,rfl,rfl⟩
 clear hs;rcases st L p0 _ _ h P K with⟨rfl,rfl,rfl⟩|⟨q0,F,E,u⟩
 .rcases st L p1 _ _ h h1 e1 with⟨rfl,rfl,rfl⟩|⟨O,x,y,k⟩
  .rcases st L p2 _ _ h D e2 with⟨rfl,rfl,rfl⟩|⟨G,w,l,d⟩
   .exact cw _ (ev1 {  } [] [] [aM L] .nil) [(.agg [.q 3 0,.i 0,.i 0,.i 0])] (.bE [(.agg [.q 3 0,.i 0,.i 0,.i 0]),(.agg [.i 0,.i 0,.i 0,.i 0,.i 0,.i 0,.i 0,.i 0,.i 0])]) kn
   .obtain⟨b,a,c⟩:=z
    exact cw _ (ev1 { vars:=Kc3,bQ:=VA } [p2] [.I b,.I a,.I c,.I l] [aM L,aM A] .nil) [(.agg [.q 3 0,.i 0,.i 0,.v 0])] (.bE [KbN,(.agg [.i 0,.i 0,.i 0,.i 0,.i 0,.i 0,.o 0,.o 1,.o 2])]) (kc d kn)
  .obtain⟨g,e,j⟩:=H
   rcases st m p2 _ _ x D e2 with⟨rfl,rfl,rfl⟩|⟨G,w,l,d⟩
   .exact cw _ (ev1 { vars:=Kc3,bQ:=VA } [p1] [.I g,.I e,.I j,.I y] [aM L,aM m] .nil) [(.agg [.q 3 0,.i 0,.v 0,.i 0])] (.bE [KbN,(.agg [.i 0,.i 0,.i 0,.o 0,.o 1,.o 2,.i 0,.i 0,.i 0])]) (kc k kn)
   .obtain⟨b,a,c⟩:=z
    exact cw _ (ev1 { vars:=Gw,bQ:=JR } [p1,p2] [.I g,.I e,.I j,.I y,.I b,.I a,.I c,.I l] [aM L,aM m,aM A] .nil) [(.agg [.q 3 0,.i 0,.v 0,.v 1])] (.bE [KbO,(.agg [.i 0,.i 0,.i 0,.o 0,.o 1,.o 2,.o 4,.o 5,.o 6])]) (kc k (kc d kn))
 .obtain⟨s,r,t⟩:=N
  rcases st p p1 _ _ F h1 e1 with⟨rfl,rfl,rfl⟩|⟨O,x,y,k⟩
  .rcases st p p2 _ _ F D e2 with⟨rfl,rfl,rfl⟩|⟨G,w,l,d⟩
   .exact cw _ (ev1 { vars:=Kc3,bQ:=VA } [p0] [.I s,.I r,.I t,.I E] [aM L,aM p] .nil) [(.agg [.q 3 0,.v 0,.i 0,.i 0])] (.bE [KbN,(.agg [.o 0,.o 1,.o 2,.i 0,.i 0,.i 0,.i 0,.i 0,.i 0])]) (kc u kn)
   .obtain⟨b,a,c⟩:=z
    exact cw _ (ev1 { vars:=Gw,bQ:=JR } [p0,p2] [.I s,.I r,.I t,.I E,.I b,.I a,.I c,.I l] [aM L,aM p,aM A] .nil) [(.agg [.q 3 0,.v 0,.i 0,.v 1])] (.bE [KbO,(.agg [.o 0,.o 1,.o 2,.i 0,.i 0,.i 0,.o 4,.o 5,.o 6])]) (kc u (kc d kn))
  .obtain⟨g,e,j⟩:=H
   rcases st m p2 _ _ x D e2 with⟨rfl,rfl,rfl⟩|⟨G,w,l,d⟩
   .exact cw _ (ev1 { vars:=Gw,bQ:=JR } [p0,p1] [.I s,.I r,.I t,.I E,.I g,.I e,.I j,.I y] [aM L,aM p,aM m] .nil) [(.agg [.q 3 0,.v 0,.v 1,.i 0])] (.bE [KbO,(.agg [.o 0,.o 1,.o 2,.o 4,.o 5,.o 6,.i 0,.i 0,.i 0])]) (kc u (kc k kn))
   .obtain⟨b,a,c⟩:=z
    exact cw _ (ev1 { vars:=[KdN,KdN,KdN],bQ:=[VQ,VR,(215,[.q 3 2,.v 2],(.bE [.q 3 3,KcV,.o 11]))] } [p0,p1,p2] [.I s,.I r,.I t,.I E,.I g,.I e,.I j,.I y,.I b,.I a,.I c,.I l] [aM L,aM p,aM m,aM A] .nil) [(.agg [.q 3 0,.v 0,.v 1,.v 2])] (.bE [(.agg [.q 3 3,.i 0,.i 0,.i 0]),(.agg [.o 0,.o 1,.o 2,.o 4,.o 5,.o 6,.o 8,.o 9,.o 10])]) (kc u (kc k (kc d kn)))
namespace CO
abbrev cF (e item loc a w b i:AV):List AV:=fr 122 [(1,e),(2,item),(3,loc),(5,.ptr 10 0 0 0),(9,.ptr 3 1 0 0),(10,.ptr 10 2 0 0),(11,.i 0),(12,a),(13,w),(14,b),(15,i)]
abbrev gF (a c p l i:AV):List AV:=fr 122 [(5,.ptr 10 0 0 0),(10,.ptr 10 2 0 0),(11,.i 0),(12,a),(17,c),(19,p),(21,l),(22,i)]
abbrev oI (k n:Nat):AV:=.own 3 1 k 0 n
abbrev oX (n:Nat):AV:=.own 137 9 4 0 n
abbrev N3 (l:List Int):Mc.dI:=.cells 3 1 (aA l)
abbrev cB (S:bF) (xq xv xp:Int):List Mc.dI:=[.cells 31 10 [[.i S.bJ,.i S.bH,.lit 1 (aA S.weights),.lit 1 (aW S.methods),.lit 1 (aW S.bT),.lit 8 (aX S.aH),.lit 8 (fU S.aO),.lit 9 (dN S.aF),.lit 6 (eO S.aG),.i S.done]],.cells 101 3 [[.i xq,.i xv,.i xp]],.cells 31 10 He]
noncomputable def body:Code:=(Tryz.f125).body.getD .skip
abbrev amg (c:Code) (r:Option (RT Out)):Prop:=uG { vars:=[(0,40)],lens:=[Kfm] } c (Wa++List.replicate 117 .undef) [] [some 0,some 1,some 2,none,none] (cF (.o 3) (.o 4) (.o 5) (.own 3 1 3 0 0) (.own 3 1 4 0 0) Kev (.i 0)) [Yd,Ka0,Vn,KeZ,KeZ] r
noncomputable def acH:Option (RT Out):=yZ { vars:=[(0,40)],lens:=[Kfm] } body (Wa++List.replicate 117 .undef:List AV).length (Wa++List.replicate 117 .undef) [] 0
def aoi:amg body acH:=⟨rfl,by decide +kernel,by decide +kernel⟩
abbrev amc (c:Code):Prop:=eA { vars:=HB,facts:=[KcN,KcO],lens:=Dl,iG:=Vp,bQ:=[(180,Zf,Kev)] } c (cF (.o 3) (.o 4) (.o 5) KdA KdB (.o 16) (.v 1)) KB 0 [some 0,some 1,some 2,some 3,some 4] (cF (.o 3) (.o 4) (.o 5) KdA KdB (.o 16) KdU) KB
abbrev amb (c:Code):Prop:=eA { vars:=HB,facts:=[KcN,KcO,(Kez,0,2147483648)],lens:=Dl,iG:=Vp,bQ:=J4 } c (cF (.o 3) (.o 4) (.o 5) KdA KdB KeF (.v 1)) KB 0 [some 0,some 1,some 2,some 7,some 9] (cF (.o 3) (.o 4) (.o 5) KbP KbQ KeF KdU) Ku
abbrev agW (c:Code):Prop:=eA { vars:=HB,facts:=[KcN,KcO,(Kez,1,2147483648)],lens:=Dl,iG:=Vp,bQ:=J4 } c (cF (.o 3) (.o 4) (.o 5) KdA KdB Kev (.v 1)) KB 0 [some 0,some 1,some 2,some 7,some 9] (cF (.o 3) (.o 4) (.o 5) KbP KbQ KeF KdU) Ku
abbrev agX (c:Code):Prop:=eA { vars:=HB,facts:=[KcN,KcO,(Kez,0,0)],lens:=Dl,iG:=Vp,bQ:=J4 } c (cF (.o 3) (.o 4) (.o 5) KdA KdB Kev (.v 1)) KB 0 [some 0,some 1,some 2,some 7,some 9] (cF (.o 3) (.o 4) (.o 5) KbP KbQ Kev KdU) [Yd,Ka0,Vn,D6,(.sc 3 1 8 [] [[.i 0]] KeQ)]
abbrev ame (c:Code):Prop:=eA { vars:=Ke4,lens:=Dm } c (cF (.o 3) (.o 4) (.o 5) Kdm KdC (.o 9) (.v 0)) KC 2 [some 0,some 1,some 2,some 3,some 4] (cF (.o 3) (.o 4) (.o 5) Kdm KdC (.o 9) (.v 0)) KC
def aoh:ai4 { vars:=Ke4,lens:=Dm } (cF (.o 3) (.o 4) (.o 5) Kdm KdC KeF (.v 0)) KC 13 [some 0,some 1,some 2,some 3] (cF (.o 3) (.o 4) (.o 5) Kdm (.q 1 8) KeF (.v 0)) KN:=by unfold ai4;decide +kernel
abbrev agY (o:Option (RT Out)) (r:Option (RT Out)):Prop:=wZ { vars:=Ke4,lens:=Dm,bQ:=Z9 } o 0 (cF (.o 3) (.o 4) (.o 5) Kdm (.q 1 8) KeF (.v 0)) KN [some 0,some 1,some 2,some 3,some 4] (gF Kdm (.q 1 9) (.q 1 10) KcP (.i 0)) [Yd,Ka0,Vn,Kcg,(.sc 137 9 5 [] [] [([0],1)])] r
noncomputable def af6:Option (RT Out):=Oa { vars:=Ke4,lens:=Dm,bQ:=Z9 } acH 0 (cF (.o 3) (.o 4) (.o 5) Kdm (.q 1 8) KeF (.v 0):List AV).length (cF (.o 3) (.o 4) (.o 5) Kdm (.q 1 8) KeF (.v 0)) KN 4
def amT:agY acH af6:=⟨rfl,by decide +kernel,by decide +kernel⟩
abbrev amf (c:Code):Prop:=eA { vars:=[(0,40),(0,40),(0,39),(0,39)],facts:=[(Kew,1,40),KcJ],lens:=U4,iG:=[(7,[([2],1)],[.v 3]),(8,[([2],1)],[.o 6]),(9,[([2],1)],[.o 7]),(10,[([3],1)],[.o 8,.o 9,.o 10,.o 11,.o 12,.o 13,.o 14,.o 15,.o 16])] } c (gF Kdm (.q 1 8) (.q 1 9) KcP (.v 2)) KA 0 [some 0,some 1,some 2,some 3,some 4] (gF Kdm (.q 1 8) (.q 1 9) KcP KdV) [Yd,KaU,Vn,Kcg,(.sc 137 9 10 [([([3],1)],[.o 8,.o 9,.o 10,.o 11,.o 12,.o 6,.o 7,.o 15,.o 16])] [] [([0],1)])]
abbrev amd (c:Code):Prop:=eA { vars:=Ke4,lens:=U4 } c (gF Kdm (.q 1 8) (.q 1 9) KcP (.v 1)) KA 4 [some 0,some 1,some 2,some 3,some 4] (gF Kdm (.q 1 8) (.q 1 9) KcP (.v 1)) KA
noncomputable abbrev fC:Func:=Tryz.f125
section
variable {S:bF} {e item loc xq xv xp:Int} {A:Nat->Prop} {w0:World} {a0:Act} {R:AV}
def ahC (oA:Option (RT Out)) (T:amc (bB oA)) (Q:amb (bB oA)) (H:agW (bB oA)) (J:agX (bB oA)) (P:ame (bB oA)) (G:Gn S) (X:Ix S e item) (Z:0<=loc) (l1:loc<=1)
  {mm:Nat->St} {w:World} {aa:Act} (f:@fD dY dZ A w0 a0 mm w aa (cF (.i e) (.i item) (.i loc) (oI 3 0) (oI 4 0) Kev (.i 0)) (fH (cB S xq xv xp++[N3 [],N3 []])))
  (K:∀mm w aa,@fD dY dZ A w0 a0 mm w aa (cF (.i e) (.i item) (.i loc) (oI 3 (zA (dC S e item loc) S.aF S.aF.length).length) (oI 4 (zA (dC S e item loc) S.aF S.aF.length).length) (.c (.bool (smN (dC S e item loc) S.aF S.aF.length))) (.i (S.aF.length:Int))) (fH (cB S xq xv xp++[N3 (zA (dC S e item loc) S.aF S.aF.length),N3 (ID (dC S e item loc) S.aF S.aF.length)]))->KS Tryz.prog (oK oA) (Fin Tryz.prog fC A w0 a0 R) (AX.exit 0).to aa w) :
  (Code.loop (bB oA)).wpIn (fw none) 9 Tryz.prog (KS Tryz.prog (oK oA) (Fin Tryz.prog fC A w0 a0 R)) aa w:=by
 have Y:=G.N9;refine dQ (fun n W w=>∃(j:Nat),n=S.aF.length-j/\j<=S.aF.length/\∃mm,@fD dY dZ A w0 a0 mm w W (cF (.i e) (.i item) (.i loc) (oI 3 (zA (dC S e item loc) S.aF j).length) (oI 4 (zA (dC S e item loc) S.aF j).length) (.c (.bool (smN (dC S e item loc) S.aF j))) (.i (j:Int))) (fH (cB S xq xv xp++[N3 (zA (dC S e item loc) S.aF j),N3 (ID (dC S e item loc) S.aF j)]))) ?_ (n:=S.aF.length) ⟨0,rfl,a0n _,_,f⟩;rintro n aa w ⟨j,rfl,hj,mm,f⟩;have z:=So (dC S e item loc) S.aF j;have y:=Fe (dC S e item loc) S.aF j;rcases(by omega:j=S.aF.length\/j<S.aF.length)with rfl|L
 .generalize zA (dC S e item loc) S.aF S.aF.length=h at *
  generalize ID (dC S e item loc) S.aF S.aF.length=k at *;generalize smN (dC S e item loc) S.aF S.aF.length=p at *;obtain⟨m,r⟩:∃m:Nat,h.length=m:=⟨_,rfl⟩;rw[r]at f z y K;refine P.go (ev1 _ [(S.aF.length:Int),(m:Int)] (vT S [.I e,.I item,.I loc,.I xq,.I xv,.I xp,.bool p]) (sT S [aA h,aA k]) .nil) (xK kn) f ?_;exact K
 .obtain⟨g,s⟩:∃g,S.aF[j]?=some g:=⟨_,a0f L⟩
  have B:=a0a s;have x:S.aF[(j:Int).toNat]?=some ⟨g.aD,g.item,g.loc,g.eX,g.back,g.cost,g.bW,g.period,g.waits⟩:=by simpa using s
  have M:S.aF.getD j .nil=g:=by rw[a0c,s];rfl
  obtain⟨b1,b2,b3,b4,b5,b6,b7,b8⟩:=G.C7 g B;have u:=XF G X (by omega) (by omega) B (loc:=loc)
  have nx:∀(t F:List Int) (C:Bool),t=zA (dC S e item loc) S.aF (j+1)->F=ID (dC S e item loc) S.aF (j+1)->C=smN (dC S e item loc) S.aF (j+1)->∀mm w a,@fD dY dZ A w0 a0 mm w a (cF (.i e) (.i item) (.i loc) (oI 3 t.length) (oI 4 t.length) (.c (.bool C)) (.i (1+(j:Int)))) (fH (cB S xq xv xp++[N3 t,N3 F]))->∃n',n'<S.aF.length-j/\∃(o:Nat),n'=S.aF.length-o/\o<=S.aF.length/\∃mm,@fD dY dZ A w0 a0 mm w a (cF (.i e) (.i item) (.i loc) (oI 3 (zA (dC S e item loc) S.aF o).length) (oI 4 (zA (dC S e item loc) S.aF o).length) (.c (.bool (smN (dC S e item loc) S.aF o))) (.i (o:Int))) (fH (cB S xq xv xp++[N3 (zA (dC S e item loc) S.aF o),N3 (ID (dC S e item loc) S.aF o)])):=by
   rintro t F C rfl rfl rfl mm w a f;rw[show(1+(j:Int))=((j+1:Nat):Int)by omega]at f;exact⟨_,by omega,j+1,rfl,by omega,mm,f⟩
  simp only[zA,ID,smN,M]at nx;generalize dC S e item loc g=b at *;generalize O:zA (dC S e item loc) S.aF j=h at *;generalize N:ID (dC S e item loc) S.aF j=k at *;generalize smN (dC S e item loc) S.aF j=p at *;clear O N;obtain⟨m,r⟩:∃m:Nat,h.length=m:=⟨_,rfl⟩;rw[r]at f z y;have q:∀(l:List Int) (v:Int),aA (l++[v])=aA l++[[.i v]]:=fun l v=>by simp[aA]
  have V:∀(v:Int),(h++[v]).length=m+1:=fun v=>by simp[r]
  have D:(1+(m:Int)).toNat=m+1:=by omega
  cases b with
  |false =>
   refine T.go (ev1 _ [(S.aF.length:Int),(j:Int),(m:Int),g.eX,g.back] (vT S [.I e,.I item,.I loc,.I xq,.I xv,.I xp,.I g.aD,.I g.item,.I g.loc,.I g.cost,.I g.bW,.I g.period,.bool g.waits,.bool p]) (sT S [aA h,aA k]) (.d (aV x) .nil)) (xK (kc u kn)) f (fd:=cF (.i e) (.i item) (.i loc) (oI 3 m) (oI 4 m) (.c (.bool p)) (.i (1+(j:Int)))) (bd:=cB S xq xv xp++[N3 h,N3 k]) ?_;intro mm w a f;rw[<-r]at f;exact nx h k p (by simp) (by simp) (by simp) mm w a f
  |true =>
   rw[if_pos rfl]at nx;have nx:=nx (h++[(j:Int)]) (k++[g.eX-g.back]);simp only[V]at nx;cases p with
   |true =>
    refine Q.go (ev1 _ [(S.aF.length:Int),(j:Int),(m:Int),g.eX,g.back] (vT S [.I e,.I item,.I loc,.I xq,.I xv,.I xp,.I g.aD,.I g.item,.I g.loc,.I g.cost,.I g.bW,.I g.period,.bool g.waits]) (sT S [aA h,aA k]) (.d (aV x) .nil)) (xK (kc u kn)) f (fd:=cF (.i e) (.i item) (.i loc) (oI 3 (1+(m:Int)).toNat) (oI 4 (1+(m:Int)).toNat) KeF (.i (1+(j:Int)))) (bd:=cB S xq xv xp++[.cells 3 1 (aA h++[[.i (j:Int)]]),.cells 3 1 (aA k++[[.i (g.eX-g.back)]])]) ?_;intro mm w a f;rw[D,<-q,<-q]at f;exact nx true (by simp) (by simp) (by simp) mm w a f
   |false =>
    rcases(by omega:g.back<g.eX\/g.back=g.eX)with E|E
    .refine H.go (ev1 _ [(S.aF.length:Int),(j:Int),(m:Int),g.eX,g.back] (vT S [.I e,.I item,.I loc,.I xq,.I xv,.I xp,.I g.aD,.I g.item,.I g.loc,.I g.cost,.I g.bW,.I g.period,.bool g.waits]) (sT S [aA h,aA k]) (.d (aV x) .nil)) (xK (kc u kn)) f (fd:=cF (.i e) (.i item) (.i loc) (oI 3 (1+(m:Int)).toNat) (oI 4 (1+(m:Int)).toNat) KeF (.i (1+(j:Int)))) (bd:=cB S xq xv xp++[.cells 3 1 (aA h++[[.i (j:Int)]]),.cells 3 1 (aA k++[[.i (g.eX-g.back)]])]) ?_
     intro mm w a f;rw[D,<-q,<-q]at f;exact nx true (by simp) (by simp) (by simp[E]) mm w a f
    .have U:g.eX-g.back=0:=by omega
     rw[U]at nx;refine J.go (ev1 _ [(S.aF.length:Int),(j:Int),(m:Int),g.eX,g.back] (vT S [.I e,.I item,.I loc,.I xq,.I xv,.I xp,.I g.aD,.I g.item,.I g.loc,.I g.cost,.I g.bW,.I g.period,.bool g.waits]) (sT S [aA h,aA k]) (.d (aV x) .nil)) (xK (kc u kn)) f (fd:=cF (.i e) (.i item) (.i loc) (oI 3 (1+(m:Int)).toNat) (oI 4 (1+(m:Int)).toNat) Kev (.i (1+(j:Int)))) (bd:=cB S xq xv xp++[.cells 3 1 (aA h++[[.i (j:Int)]]),.cells 3 1 (aA k++[[.i 0]])]) ?_;intro mm w a f;rw[D,<-q,<-q]at f;exact nx false (by simp) (by simp) (by simp[E]) mm w a f
def ahB (h:Option (RT Out)) (t:amf (bB h)) (s:amd (bB h)) (G:Gn S) {b C P:List Int} {m:Nat} (L:b.length=m) (hC:C.length=m) (K:P.length=m) (H:m<=40) (r:∀k∈b,0<=k/\k<S.aF.length)
  {mm:Nat->St} {w:World} {aa:Act} (e:@fD dY dZ A w0 a0 mm w aa (gF (oI 3 m) (.lit 1 (aA C)) (.lit 1 (aA P)) (oX S.aF.length) (.i 0)) (fH (cB S xq xv xp++[N3 b,.cells 137 9 (dN S.aF)])))
  (u:∀mm w aa,@fD dY dZ A w0 a0 mm w aa (gF (oI 3 m) (.lit 1 (aA C)) (.lit 1 (aA P)) (oX S.aF.length) (.i (m:Int))) (fH (cB S xq xv xp++[N3 b,.cells 137 9 (dN (mL b C P S.aF m))]))->KS Tryz.prog (oK h) (Fin Tryz.prog fC A w0 a0 R) (AX.exit 2).to aa w) :
  (Code.loop (bB h)).wpIn (fw none) 9 Tryz.prog (KS Tryz.prog (oK h) (Fin Tryz.prog fC A w0 a0 R)) aa w:=by
 have D:=G.N9;refine dQ (fun n B w=>∃(j:Nat),n=m-j/\j<=m/\∃mm,@fD dY dZ A w0 a0 mm w B (gF (oI 3 m) (.lit 1 (aA C)) (.lit 1 (aA P)) (oX S.aF.length) (.i (j:Int))) (fH (cB S xq xv xp++[N3 b,.cells 137 9 (dN (mL b C P S.aF j))]))) ?_ (n:=m) ⟨0,rfl,a0n _,_,e⟩;rintro n aa w ⟨j,rfl,J,mm,e⟩;have x:=zK b C P S.aF j;rcases(by omega:m=j\/j<m)with rfl|E
 .generalize mL b C P S.aF m=f at *
  refine s.go (ev1 _ [(S.aF.length:Int),(m:Int)] (vT S [.I xq,.I xv,.I xp]) (sT S [aA b,aA C,aA P,dN f]) .nil) (xK kn) e ?_;exact u
 .have y:b[(j:Int).toNat]?=some (b.getD j 0):=getD_some (by omega)
  have z:C[(j:Int).toNat]?=some (C.getD j 0):=getD_some (by omega);have v:P[(j:Int).toNat]?=some (P.getD j 0):=getD_some (by omega);have F:=r _ (dA (d:=0) (k:=j) (l:=b) (by omega))
  have nx:dN (mL b C P S.aF (j+1))=(dN (mL b C P S.aF j)).set (b.getD j 0).toNat (({ (mL b C P S.aF j).getD (b.getD j 0).toNat .nil with cost:=C.getD j 0,bW:=P.getD j 0 }:kJ).row):=by
   simp only[mL,dN,a09]
  have fin:∀mm w a,@fD dY dZ A w0 a0 mm w a (gF (oI 3 m) (.lit 1 (aA C)) (.lit 1 (aA P)) (oX S.aF.length) (.i (1+(j:Int)))) (fH (cB S xq xv xp++[N3 b,.cells 137 9 (dN (mL b C P S.aF (j+1)))]))->∃n',n'<m-j/\∃(o:Nat),n'=m-o/\o<=m/\∃mm,@fD dY dZ A w0 a0 mm w a (gF (oI 3 m) (.lit 1 (aA C)) (.lit 1 (aA P)) (oX S.aF.length) (.i (o:Int))) (fH (cB S xq xv xp++[N3 b,.cells 137 9 (dN (mL b C P S.aF o))])):=by
   intro mm w a e;rw[show(1+(j:Int))=((j+1:Nat):Int)by omega]at e;exact⟨_,by omega,j+1,rfl,by omega,mm,e⟩
  rw[nx]at fin;clear nx;have q:(mL b C P S.aF j)[(b.getD j 0).toNat]?=some ((mL b C P S.aF j).getD (b.getD j 0).toNat .nil):=getD_some (by omega);generalize b.getD j 0=k at *;generalize C.getD j 0=c at *;generalize P.getD j 0=p at *;generalize mL b C P S.aF j=f at *;generalize f.getD k.toNat .nil=g at *;have q:f[k.toNat]?=some ⟨g.aD,g.item,g.loc,g.eX,g.back,g.cost,g.bW,g.period,g.waits⟩:=q;refine t.go (ev1 _ [(S.aF.length:Int),(m:Int),(j:Int),k] (vT S [.I xq,.I xv,.I xp,.I c,.I p,.I g.aD,.I g.item,.I g.loc,.I g.eX,.I g.back,.I g.cost,.I g.bW,.I g.period,.bool g.waits]) (sT S [aA b,aA C,aA P,dN f]) (.d (aI y) (.d (aI z) (.d (aI v) (.d (aV q) .nil))))) (xK kn) e (fd:=gF (oI 3 m) (.lit 1 (aA C)) (.lit 1 (aA P)) (oX S.aF.length) (.i (1+(j:Int)))) (bd:=cB S xq xv xp++[N3 b,.cells 137 9 ((dN f).set k.toNat [.i g.aD,.i g.item,.i g.loc,.i g.eX,.i g.back,.i c,.i p,.i g.period,.c (.bool g.waits)])]) ?_;intro mm w a e;exact fin mm w a e
def walk (oA h:Option (RT Out)) (H:amg body oA) (F:amc (bB oA)) (D:amb (bB oA)) (l:agW (bB oA)) (n:agX (bB oA)) (B:ame (bB oA)) (r0:kH { vars:=Ke4,lens:=Dm } Tryz.f125 oA 0 (cF (.o 3) (.o 4) (.o 5) Kdm KdC Kev (.v 0)) KC (KaK)) (r1:agY oA h) (E:amf (bB h)) (z:amd (bB h)) (y:kH { vars:=Ke4,lens:=U4 } Tryz.f125 h 2 (gF Kdm (.q 1 8) (.q 1 9) KcP (.v 1)) KA ((.bE [(.agg [.o 0,.o 1,.q 1 1,.q 1 2,.q 1 3,.q 8 0,.q 8 4,.q 9 10,.q 6 6,.o 2]),.i 0])))
  (G:Gn S) (X:Ix S e item) (J:0<=loc) (l1:loc<=1) (T:0<=xv/\xv<=288230376151711744) (k:qA xp) :
  Ck 125 [S.av,.i e,.i item,.i loc,bP.av ⟨xq,xv,xp⟩] (.bE [(iO S e item loc ⟨xq,xv,xp⟩).av,.i 0]):=by
 have O:=G.N9;refine CK.hY Tryz.func125 (c:=body) (by kernel_rfl) (Cw.out) (yY.out) fun A w0 a0=>?_
 generalize g:AV.bE [(iO S e item loc ⟨xq,xv,xp⟩).av,.i 0]=R;intro mm w aa a;rw[Tryz.ntmps125]at a;refine H.go (ev1 _ [(S.aF.length:Int)] (vT S [.I e,.I item,.I loc,.I xq,.I xv,.I xp]) (sT S []) .nil) (xK kn) a (fd:=cF (.i e) (.i item) (.i loc) (oI 3 0) (oI 4 0) Kev (.i 0)) (bd:=cB S xq xv xp++[N3 [],N3 []]) ?_;intro mm w aa a;refine ahC oA F D l n B G X J l1 a ?_;intro mm w aa a;unfold iO at g;have j:=aas (dC S e item loc) S.aF S.aF.length (fun x K=>by obtain⟨_,_,_,V,U,_⟩:=G.C7 x K;omega) (a0g _);have s:=So (dC S e item loc) S.aF S.aF.length;have r:=Fe (dC S e item loc) S.aF S.aF.length;have t:=aca (dC S e item loc) S.aF S.aF.length;have d:=Mi (dC S e item loc) S.aF S.aF.length;generalize zA (dC S e item loc) S.aF S.aF.length=f at *;generalize ID (dC S e item loc) S.aF S.aF.length=b at *;generalize smN (dC S e item loc) S.aF S.aF.length=u at *;obtain⟨m,p⟩:∃m:Nat,f.length=m:=⟨_,rfl⟩;rw[p]at a s r g;cases u with
 |false =>
  rw[if_pos rfl]at g;subst g;exact r0.go (ev1 _ [(S.aF.length:Int),(m:Int)] (vT S [.I e,.I item,.I loc,.I xq,.I xv,.I xp]) (sT S [aA f,aA b]) .nil) (xK kn) a
 |true =>
  rw[if_neg (by simp)]at g;obtain⟨mm,a⟩:=aoh.go (ev1 _ [(S.aF.length:Int),(m:Int)] (vT S [.I e,.I item,.I loc,.I xq,.I xv,.I xp]) (sT S [aA f,aA b]) .nil) a (fd:=cF (.i e) (.i item) (.i loc) (oI 3 m) (.lit 1 (aA b)) KeF (.i (S.aF.length:Int))) (bd:=cB S xq xv xp++[N3 f]);have d:=d rfl;have M:=Fb (v:=xv) (ws:=b) ⟨by omega,by omega⟩ j (by omega) d;have k:=Fb (v:=xp) (ws:=b) k j (by omega) d;obtain⟨-,Q,-⟩:=uR (v:=xv) (w:=b) ⟨by omega,by omega⟩ j (by omega) d;obtain⟨-,lp,-⟩:=uR (v:=xp) (w:=b) ‹qA xp› j (by omega) d;dsimp only at g;generalize (iJ xv b).1=C at *;generalize (iJ xp b).1=P at *;refine r1.go (ev1 _ [(S.aF.length:Int),(m:Int)] (vT S [.I e,.I item,.I loc,.I xq,.I xv,.I xp]) (sT S [aA f,aA b,aA C,aA P]) .nil) (xK (kc M (kc k kn))) a (fd:=gF (oI 3 m) (.lit 1 (aA C)) (.lit 1 (aA P)) (oX S.aF.length) (.i 0)) (bd:=cB S xq xv xp++[N3 f,.cells 137 9 (dN S.aF)]) ?_;intro mm w aa a;refine ahB h E z G p (by omega) (by omega) (by omega) t a ?_;intro mm w aa a;subst g;have L:=zK f C P S.aF m;generalize mL f C P S.aF m=N at *;exact y.go (ev1 _ [(S.aF.length:Int),(m:Int)] (vT S [.I xq,.I xv,.I xp]) (sT S [aA f,aA C,aA P,dN N]) .nil) (xK kn) a
end
end CO
section
variable {S:bF} {e item loc:Int}
def Sf {xq xv xp:Int} (G:Gn S) (X:Ix S e item) (a:0<=loc) (l1:loc<=1) (b:0<=xv/\xv<=288230376151711744) (c:qA xp) :
  Ck 125 [S.av,.i e,.i item,.i loc,bP.av ⟨xq,xv,xp⟩] (.bE [(iO S e item loc ⟨xq,xv,xp⟩).av,.i 0]) :=
 CO.walk CO.acH CO.af6 CO.aoi .of .of .of .of .of .of CO.amT .of .of .of G X a l1 b c
end
end
section
open Mc
def afD {v q p:Int} (i:¬ v<0) (j:¬ q<0) (k:¬ p<0) (iv:kS v) (c:kS q) (d:kS p) :
  vF v q p=(if kZ q p > 0\/kY q p ≥ IntKind.u64.wrap v then 0 else v-kY q p)/\(¬ kZ q p > 0->¬ kY q p ≥ IntKind.u64.wrap v->0<=kY q p/\kY q p<v):=by
 have o:=SG (a:=q) (b:=p) (by omega) c.hi (by omega) d.hi;have n:=Fy q p;have m:=Ag q p;have e:IntKind.u64.wrap v=v:=wrap_small (by omega) (by have:=iv.hi;omega);rw[e];unfold vF;rw[if_neg (by omega)];have f:=iv.hi;generalize kZ q p=l at *;generalize kY q p=h at *;generalize q*p=g at *;refine⟨?_,fun a b=>⟨by omega,by omega⟩⟩;split
 .rw[if_pos];omega
 .rw[if_neg (by omega)];omega
def Rh (v q p:Int) (w:World) (iv:kS v) (i:kS q) (j:kS p) :
  Calls Tryz.prog 126 #[.int .i64 v,.int .i64 q,.int .i64 p] w fun e w'=>e=.returned (.int .i64 (vF v q p))/\Below w.heap.size w w':=by
 by_cases c:v<0
 .have e:vF v q p=0:=by simp[vF,c]
  rw[e];go_enter Tryz.func126,Tryz.ntmps126;go_wp2_with fail;go_ret;exact⟨rfl,blw⟩
 by_cases d:q<0
 .have e:vF v q p=0:=by simp[vF,d]
  rw[e];go_enter Tryz.func126,Tryz.ntmps126;go_wp2_with fail;go_ret;exact⟨rfl,blw⟩
 by_cases f:p<0
 .have e:vF v q p=0:=by simp[vF,f]
  rw[e];go_enter Tryz.func126,Tryz.ntmps126;go_wp2_with fail;go_ret;exact⟨rfl,blw⟩
 obtain⟨a,b⟩:=afD c d f iv i j;have l:=Ag q p;have m:=Fy q p;have k:=iv.hi;have e1:IntKind.u64.wrap v=v:=wrap_small (by omega) (by omega);rw[e1]at a b;by_cases h:kZ q p > 0
 .have e:vF v q p=0:=by rw[a,if_pos (.inl h)]
  rw[e];clear a b;go_enter Tryz.func126,Tryz.ntmps126;go_wp2_with (go_at_call 182;refine(zI _ _ _).mono ?_;rintro e w' ⟨rfl,rfl⟩);go_ret;exact⟨rfl,blw⟩
 by_cases g:kY q p ≥ v
 .have e:vF v q p=0:=by rw[a,if_pos (.inr g)]
  rw[e];clear a b;go_enter Tryz.func126,Tryz.ntmps126;go_wp2_with (go_at_call 182;refine(zI _ _ _).mono ?_;rintro e w' ⟨rfl,rfl⟩);go_ret;exact⟨rfl,blw⟩
 .have e:vF v q p=v-kY q p:=by rw[a,if_neg (by omega)]
  obtain⟨b1,b2⟩:=b h g;rw[e];clear a;go_enter Tryz.func126,Tryz.ntmps126;go_wp2_with (go_at_call 182;refine(zI _ _ _).mono ?_;rintro e w' ⟨rfl,rfl⟩);go_ret;exact⟨rfl,blw⟩
def Si {v q p:Int} (a:kS v) (b:kS q) (d:kS p):Ck 126 [.i v,.i q,.i p] (.i (vF v q p)) :=
 ⟨bL (.c _) (bL (.c _) (bL (.c _) fW)),.c _,@anf dY dZ _ [.int .i64 v,.int .i64 q,.int .i64 p] _ fun w=>(Rh v q p w a b d).mono fun e w' h=>⟨h.1,h.2⟩⟩
section
variable {S:bF} {e item loc:Int}
def Se (G:Gn S) (X:Ix S e item) (n:0<=loc) (l1:loc<=1) (Z:S.cE e item=3) :
  Ck 62 [S.av,.i e,.i item,.i loc] (.bE [(hH S e item loc).1.av,.i (hH S e item loc).2]):=by
 have h:=G.toStOk;have:=h.hn;have:=h.hw;have:=X.e0;have:=X.e1;have:=X.i0;have:=X.i1;have w:=lV h X n l1;have a:=h.xV X n l1;obtain⟨y,a2,x,V,U⟩:=Lx (d:=((S.aB e).aU (2*item+loc)).pn) a.lr;have j:(nC ((S.aB e).aU (2*item+loc)).aN ((S.aB e).aU (2*item+loc)).pn).1.length<=1:=by rcases a.one with h1|h1<;>omega
 have q0:=fQ y.ok;have b0:=a.a0;have b1:=a.b0;have b2:=a.c0;have b3:=a.sum;have b4:=a.lr.q;have C:=a.lr;have s:=fun P=>sL h X n l1 P
 have R:=fun p t=>gH h X n l1 (p:=p) t;rw[Z]at R;unfold hH;generalize (S.aB e).aU (2*item+loc)=P at *;obtain⟨L,p0,p1,p2⟩:=P;have hs:=Sj (L:=L) (p0:=p0) (p1:=p1) (p2:=p2) C (by change 0<=p0 at b0;change 0<=p1 at b1;change 0<=p2 at b2;change p0+p1+p2<=_ at b3;omega) (by change 0<=p0 at b0;change 0<=p1 at b1;change 0<=p2 at b2;change p0+p1+p2<=_ at b3;omega) (by change 0<=p0 at b0;change 0<=p1 at b1;change 0<=p2 at b2;change p0+p1+p2<=_ at b3;omega);change 0<=p0 at b0;change 0<=p1 at b1;change 0<=p2 at b2;change p0+p1+p2<=_ at b3;have T:(⟨L,p0,p1,p2⟩:cY).pn=⟨p0,p1,p2⟩:=rfl;rw[T]at y a2 x V U j q0 |-;dsimp only at y a2 x V U j q0 C b4 b3 |-;by_cases O:p0+p1+p2=0
 .rw[if_pos O]
  exact cw _ (ev1 { vars:=[(0,3),(0,4),(0,1),KdO,KdO,KdO],facts:=[([([3],1),([4],1),([5],1)],0,0)],bQ:=[UQ] } [e,item,loc,p0,p1,p2] (vT S []) (sT S [aM L]) .nil) BL KaK (kc w kn)
 rw[if_neg O];generalize nC L ⟨p0,p1,p2⟩=r at *;obtain⟨M,⟨xq,xv,xp⟩,⟨H,g,J⟩,⟨E,b,F⟩⟩:=r;dsimp only at *;have s:=s ⟨M,0,0,0⟩;have m:=R ⟨M,0,0,0⟩ ⟨y,.inr j,by show(0:Int)<=0;omega,by show(0:Int)<=0;omega,by show(0:Int)<=0;omega,by show(0:Int)+0+0<=qs M;omega,.inl rfl⟩;generalize S.aZ e ((S.aB e).bR (2*item+loc) ⟨M,0,0,0⟩)=S0 at *;obtain⟨B,rfl⟩:=m.ex;have t:=eH m.ok (m.ix X) (l:=[⟨5,xv⟩,⟨7,g⟩,⟨8,b⟩,⟨0,-xv⟩,⟨0,-g⟩,⟨0,-b⟩]) (vO fmo) (by simp);obtain⟨Y,e1,-⟩:=dG m.ok (m.ix X) [⟨5,xv⟩,⟨7,g⟩,⟨8,b⟩,⟨0,-xv⟩,⟨0,-g⟩,⟨0,-b⟩];generalize cZ (S.bM B) e [⟨5,xv⟩,⟨7,g⟩,⟨8,b⟩,⟨0,-xv⟩,⟨0,-g⟩,⟨0,-b⟩]=r at *;obtain⟨S1,f⟩:=r;dsimp only at *;have k:=m.trans Y;obtain⟨A,rfl⟩:=k.ex;by_cases u:f=0;rotate_left
 .rw[if_pos u]
  have f2:1<=f/\f<=20:=by unfold gY at e1;omega
  exact cw _ (ev1 { vars:=Jc,facts:=HN,bQ:=[UQ,JQ,Zp,(92,Jx,(.bE [Kd6,.v 9]))] } [e,item,loc,p0,p1,p2,xv,g,b,f] (vT S [.I xq,.I xp,.I H,.I J,.I E,.I F]) (sT S [aM L,aM M,aX B,aX A]) .nil) BL KaL (kc w (kc hs (kc s (kc t kn))))
 subst u;rw[if_neg (by simp)];have Q:=fL k.ok (k.ix X) (r:=[0,0,0,0,0,xv,0,0,g,b,0]) rfl;obtain⟨W,e2,-⟩:=eI k.ok (k.ix X) (r:=[0,0,0,0,0,xv,0,0,g,b,0]) rfl;generalize dR (S.bM A) e item [0,0,0,0,0,xv,0,0,g,b,0]=r at *;obtain⟨S2,f⟩:=r;dsimp only at *;have N:=k.trans W;obtain⟨z,rfl⟩:=N.ex;by_cases u:f=0;rotate_left
 .rw[if_pos u]
  have f2:1<=f/\f<=20:=by unfold gY at e2;omega
  exact cw _ (ev1 { vars:=Jc,facts:=HN,bQ:=[UQ,JQ,Zp,KW,(124,Zg,(.bE [Kd7,.v 9]))] } [e,item,loc,p0,p1,p2,xv,g,b,f] (vT S [.I xq,.I xp,.I H,.I J,.I E,.I F]) (sT S [aM L,aM M,aX B,aX A,aX z]) .nil) BL KaL (kc w (kc hs (kc s (kc t (kc Q kn)))))
 subst u;rw[if_neg (by simp)];have K:=Sf (xq:=xq) (xv:=xv) (xp:=xp) (N.gn G) (N.ix X) n l1 x.1 x.2
 obtain⟨c,D⟩:∃c,iO (S.bM z) e item loc ⟨xq,xv,xp⟩={ S.bM z with aF:=c }:=by
  unfold iO;split
  .exact⟨S.aF,rfl⟩
  .exact⟨_,rfl⟩
 rw[D]at K;dsimp only at K |-;rw[D];exact cw _ (ev1 { vars:=[(0,3),(0,4),(0,1),KdO,KdO,KdO,KdO,KdO,KdO],facts:=HN,bQ:=[UQ,JQ,Zp,KW,(124,Zg,(.bE [Kd7,.i 0])),(125,[Kd7,.v 0,.v 1,.v 2,(.agg [.o 3,.v 6,.o 4])],ZM)] } [e,item,loc,p0,p1,p2,xv,g,b] (vT S [.I xq,.I xp,.I H,.I J,.I E,.I F]) (sT S [aM L,aM M,aX B,aX A,aX z,dN c]) .nil) BL ZM (kc w (kc hs (kc s (kc t (kc Q (kc K kn))))))
end
namespace MK
abbrev mF (e lines i:AV):List AV:=fr 99 [(1,e),(2,.ptr 10 0 0 0),(4,.ptr 10 1 0 0),(5,.i 0),(6,.ptr 10 2 0 0),(7,lines),(8,i)]
abbrev oL (n:Nat):AV:=.own 44 2 9 0 n
abbrev mB (S:bF) (e:Int) (x:dE) (a:List Int):List Mc.dI:=[.cells 31 10 [[.i S.bJ,.i S.bH,.lit 1 (aA S.weights),.lit 1 (aW S.methods),.lit 1 (aW S.bT),.lit 8 (aX S.aH),.lit 8 (fU S.aO),.lit 9 (dN S.aF),.lit 6 (eO S.aG),.i S.done]],
 .cells 31 10 He,
 .cells 31 10 [[.i S.bJ,.i S.bH,.lit 1 (aA S.weights),.lit 1 (aW S.methods),.lit 1 (aW S.bT),.own 76 8 3 0 S.aH.length,.lit 8 (fU S.aO),.lit 9 (dN S.aF),.lit 6 (eO S.aG),.i S.done]],
 .cells 76 8 ((aX S.aH).set e.toNat [.i x.now,.c (.bool x.closed),.own 161 4 4 0 (2*(S.weights.length:Int)).toNat,.own 3 1 5 0 17,.own 140 11 6 0 S.weights.length,.own 3 1 7 0 S.weights.length,.own 3 1 8 0 S.weights.length,.lit 8 (bX x.ahead)]),
 .cells 161 4 (bS x.bK),.cells 3 1 (aA x.cN),.cells 140 11 (bN x.aJ),.cells 3 1 (aA x.bD),.cells 3 1 (aA a)]
abbrev lB (l:List cU):Mc.dI:=.cells 44 2 (bU l)
noncomputable def body:Code:=(Tryz.f63).body.getD .skip
abbrev alN (c:Code) (r:Option (RT Out)):Prop:=uG { vars:=Kes,facts:=Kct,lens:=ZS,iG:=UW } c (Kcf++List.replicate 97 .undef) [] [some 0,some 1,some 10,some 4,some 5,some 6,some 7,some 8,some 9,none] (mF (.v 1) (.own 44 2 9 0 0) (.i 0)) [Yd,Vn,QY,KX,Kb0,Kch,KbR,Kb4,(.sc 3 1 11 [] [] [([2],1)]),(.cells 44 2 [])] r
noncomputable def alB:Option (RT Out):=yZ { vars:=Kes,facts:=Kct,lens:=ZS,iG:=UW } body (Kcf++List.replicate 97 .undef:List AV).length (Kcf++List.replicate 97 .undef) [] 0
def an7:alN body alB:=⟨rfl,by decide +kernel,by decide +kernel⟩
abbrev agw (c:Code):Prop:=eA { vars:=[(0,4),(0,3),(1,5),(0,10),(0,4),(-1152921504606846976,-1)],facts:=HO,lens:=Qj,iG:=[Vb,(10,[([4],1)],[.v 5])] } c (mF (.v 1) Kc4 (.v 4)) Kc 0 [some 0,some 1,some 2,some 3,some 4,some 5,some 6,some 7,some 8,some 9] (mF (.v 1) Kc4 Kd3) Kc
abbrev ac0 (c:Code):Prop:=eA { vars:=[(0,4),(0,3),(1,5),(0,10),(0,4),KdO,KdO,KdO],facts:=HO,lens:=Qj,iG:=[Vb,(10,[([4],1)],[.v 5]),(13,[([4],1)],[.v 7])],bQ:=[(52,[Keg,.v 1,.v 4],(.agg [.o 5,.o 6,.o 7])),(126,[.o 6,.o 5,.v 5],(.v 6))] } c (mF (.v 1) Kc4 (.v 4)) Kc 0 [some 0,some 1,some 2,some 3,some 4,some 5,some 6,some 7,some 8,some 12] (mF (.v 1) (.dD 44 2 9 [([],2),([3],1)]) Kd3) [Yd,Vn,QY,KX,Kb0,Kch,KbR,Kb4,(.sc 3 1 13 [([([4],1)],[.v 6])] [] [([2],1)]),(.sc 44 2 14 [] [[.i 10,(.e [([6],1),([7],-1)])],[.i 11,(.e [([6],-1),([7],1)])]] [([],2),([3],1)])]
abbrev alM (c:Code):Prop:=eA { vars:=[(0,4),(0,3),(1,5),(0,10)],facts:=Kct,lens:=Qj,iG:=UW } c (mF (.v 1) Kc4 (.v 2)) Kc 2 [some 0,some 1,some 2,some 3,some 4,some 5,some 6,some 7,some 8,some 9] (mF (.v 1) Kc4 (.v 2)) Kc
noncomputable abbrev fC:Func:=Tryz.f63
section
variable {S:bF} {e:Int} {A:Nat->Prop} {w0:World} {a0:Act} {R:AV}
def loop (oA:Option (RT Out)) (rn:agw (bB oA)) (Y:ac0 (bB oA)) (Z:alM (bB oA)) (G:Gn S) (X:Ix S e 0) {x:dE} (s:x=S.aB e)
  {mm:Nat->St} {w:World} {aa:Act} (b:@fD dY dZ A w0 a0 mm w aa (mF (.i e) (oL 0) (.i 0)) (fH (mB S e x (mA S e 0)++[lB (jN S e 0)])))
  (K:∀mm w aa,@fD dY dZ A w0 a0 mm w aa (mF (.i e) (oL (jN S e S.weights.length).length) (.i (S.weights.length:Int))) (fH (mB S e x (mA S e S.weights.length)++[lB (jN S e S.weights.length)]))->KS Tryz.prog (oK oA) (Fin Tryz.prog fC A w0 a0 R) (AX.exit 0).to aa w) :
  (Code.loop (bB oA)).wpIn (fw none) 9 Tryz.prog (KS Tryz.prog (oK oA) (Fin Tryz.prog fC A w0 a0 R)) aa w:=by
 have h:=G.toStOk;have hn:=h.hn;have hw:=h.hw;have:=X.e0;have:=X.e1;have:=X.i1;have ab:M58=288230376151711744:=rfl;have E:=h.mQ X;have q:=h.at_ X;have q:S.aH[e.toNat]?=some ⟨⟨x.now,x.closed,x.bK,x.cN,x.aJ,x.bD,x.down⟩,x.ahead⟩:=by rw[s];exact q
 have pl:=E.pl;have bl:=E.bl;have rl:=E.rl;have J:=E.pr;have P:=E.dl;have z:=E.prb;have Q:=E.db;rw[<-s]at pl bl rl J P z Q;have N:∀j,(mA S e j).length=S.weights.length:=fun j=>by rw[tV,<-s];exact P
 have M:=M5 S e;refine dQ (fun n a' w=>∃(j:Nat),n=S.weights.length-j/\j<=S.weights.length/\∃mm,@fD dY dZ A w0 a0 mm w a' (mF (.i e) (oL (jN S e j).length) (.i (j:Int))) (fH (mB S e x (mA S e j)++[lB (jN S e j)]))) ?_ (n:=S.weights.length) ⟨0,rfl,a0n _,_,b⟩;rintro n aa w ⟨j,rfl,hj,mm,b⟩;have af:=N j;have C:=M j;rcases(by omega:j=S.weights.length\/j<S.weights.length)with rfl|ae
 .generalize mA S e S.weights.length=f at *
  generalize jN S e S.weights.length=c at *;obtain⟨m,t⟩:∃m:Nat,c.length=m:=⟨_,rfl⟩;rw[t]at b C K;refine Z.go (ev1 _ [(S.aH.length:Int),e,(S.weights.length:Int),(m:Int)] (vT S [.I x.now,.bool x.closed]) (sT S [bS x.bK,aA x.cN,bN x.aJ,aA x.bD,aA x.down,bX x.ahead,aA f,bU c]) (.d (aE q) .nil)) (xK kn) b ?_;exact K
 .have u:x.bD[(j:Int).toNat]?=some (x.bD.getD j 0):=getD_some (by omega)
  have ac:=z _ (dA (d:=0) (k:=j) (l:=x.bD) (by omega))
  have ho:(mA S e j)[(j:Int).toNat]?=some (S.down e j):=by
   rw[<-TO S e j];exact getD_some (by omega)
  have ad:0<=S.down e j/\S.down e j<=288230376151711744:=by
   unfold bF.down;rw[<-s];exact Q _ (dA (by omega))
  have g:S.qX e j=x.bD.getD j 0:=by unfold bF.qX;rw[s]
  have nx:∀mm w a,@fD dY dZ A w0 a0 mm w a (mF (.i e) (oL (jN S e (j+1)).length) (.i (1+(j:Int)))) (fH (mB S e x (mA S e (j+1))++[lB (jN S e (j+1))]))->∃n',n'<S.weights.length-j/\∃(r:Nat),n'=S.weights.length-r/\r<=S.weights.length/\∃mm,@fD dY dZ A w0 a0 mm w a (mF (.i e) (oL (jN S e r).length) (.i (r:Int))) (fH (mB S e x (mA S e r)++[lB (jN S e r)])):=by
   intro mm w a b;rw[show(1+(j:Int))=((j+1:Nat):Int)by omega]at b;exact⟨_,by omega,j+1,rfl,by omega,mm,b⟩
  simp only[jN,mA,g]at nx;have Xj:Ix S e (j:Int):=⟨X.e0,X.e1,by omega,by omega⟩
  have O:=I3 h Xj;have v:∀p,kS p->Ck 126 [.i (bV S e (j:Int)).1.v,.i (bV S e (j:Int)).1.q,.i p] (.i (vF (bV S e (j:Int)).1.v (bV S e (j:Int)).1.q p)):=fun p u=>by
   have V:=Lw [vs ((S.aB e).aU (2*(j:Int))).aN,vs ((S.aB e).aU (2*(j:Int)+1)).aN];have U:=Lw [qs ((S.aB e).aU (2*(j:Int))).aN,qs ((S.aB e).aU (2*(j:Int)+1)).aN];unfold qA at V U;exact Si (by unfold bV;exact⟨by dsimp only;omega,by dsimp only;omega⟩) (by unfold bV;exact⟨by dsimp only;omega,by dsimp only;omega⟩) u
  have B:=Lu S e j;have L:N6 S e j=vF (bV S e (j:Int)).1.v (bV S e (j:Int)).1.q (x.bD.getD j 0):=by unfold N6;rw[g]
  rw[L]at B nx;generalize x.bD.getD j 0=p at *;have v:=v p ⟨by omega,by omega⟩;generalize bV S e (j:Int)=W at *;obtain⟨⟨H,F,T⟩,wb⟩:=W;dsimp only at O v B nx;generalize vF F H p=d at *;generalize S.down e j=o at *;generalize mA S e j=f at *;generalize jN S e j=c at *;obtain⟨m,t⟩:∃m:Nat,c.length=m:=⟨_,rfl⟩;rw[t]at b C;by_cases y:0<=p
  .rw[if_pos y,if_pos y]at nx
   have al:(c++([⟨10,d-o⟩,⟨11,-d+o⟩]:List cU)).length=m+2:=(by simp[t]);have m2:(2+(m:Int)).toNat=m+2:=(by omega);have D:-(d-o)=-d+o:=(by omega);rw[D,al]at nx;refine Y.go (ev1 _ [(S.aH.length:Int),e,(S.weights.length:Int),(m:Int),(j:Int),p,d,o] (vT S [.I x.now,.bool x.closed,.I H,.I F,.I T]) (sT S [bS x.bK,aA x.cN,bN x.aJ,aA x.bD,aA x.down,bX x.ahead,aA f,bU c]) (.d (aE q) (.d (aI u) (.d (aI ho) .nil)))) (xK (kc O (kc v kn))) b (fd:=mF (.i e) (oL (2+(m:Int)).toNat) (.i (1+(j:Int)))) (bd:=(mB S e x []).take 8++[.cells 3 1 ((aA f).set (j:Int).toNat [.i d]),.cells 44 2 (bU c++[[.i 10,.i (d-o)],[.i 11,.i (-d+o)]])]) ?_;intro mm w a b;rw[m2]at b;refine nx mm w a ?_;change @fD dY dZ A w0 a0 mm w a _ (fH ((mB S e x []).take 8++[.cells 3 1 (aA (f.set j d)),.cells 44 2 (bU (c++([⟨10,d-o⟩,⟨11,-d+o⟩]:List cU)))]));rw[show aA (f.set j d)=(aA f).set (j:Int).toNat [.i d]by simp[aA,a09],show bU (c++([⟨10,d-o⟩,⟨11,-d+o⟩]:List cU))=bU c++[[.i 10,.i (d-o)],[.i 11,.i (-d+o)]]by simp[bU];exact⟨rfl,rfl⟩];exact b
  .rw[if_neg y,if_neg y,a1r,t]at nx
   refine rn.go (ev1 _ [(S.aH.length:Int),e,(S.weights.length:Int),(m:Int),(j:Int),p] (vT S [.I x.now,.bool x.closed]) (sT S [bS x.bK,aA x.cN,bN x.aJ,aA x.bD,aA x.down,bX x.ahead,aA f,bU c]) (.d (aE q) (.d (aI u) .nil))) (xK kn) b (fd:=mF (.i e) (oL m) (.i (1+(j:Int)))) (bd:=mB S e x f++[lB c]) ?_;exact nx
def walk (oA:Option (RT Out)) (H:alN body oA) (C:agw (bB oA)) (z:ac0 (bB oA)) (B:alM (bB oA)) (ro:kH { vars:=[(0,4),(0,3),(1,5),(0,10)],facts:=Kct,lens:=Qj,iG:=UW,bQ:=[(92,Qz,Kan)] } Tryz.f63 oA 0 (mF (.v 1) Kc4 (.v 2)) Kc (Kan)) (F:kH { vars:=[(0,4),(0,3),(1,5),(0,10),(1,20)],facts:=Kct,lens:=Qj,iG:=UW,bQ:=[(92,Qz,(.bE [(sN (.q 8 15) (.o 2)),.v 4]))] } Tryz.f63 oA 0 (mF (.v 1) Kc4 (.v 2)) Kc ((.bE [Keg,.v 4]))) (G:Gn S) (X:Ix S e 0) :
  Ck 63 [S.av,.i e] (.bE [(oP S e).1.av,.i (oP S e).2]):=by
 have h:=G.toStOk;have W:=h.hn;have V:=h.hw;have:=X.e0;have:=X.e1;have:=X.i1;have E:=h.mQ X;have b:=h.at_ X;have K:=LU h X (tV S e S.weights.length) (LG E.db _);have N:=vO (aj8 (S:=S) (e:=e) E.db S.weights.length);have T:=M5 S e S.weights.length;have n:=eH K.ok (K.ix X) (l:=jN S e S.weights.length) N (by omega);obtain⟨L,e1,-⟩:=dG K.ok (K.ix X) (jN S e S.weights.length);have U:(mA S e S.weights.length).length=S.weights.length:=by rw[tV];exact E.dl
 refine CK.hY Tryz.func63 (c:=body) (by kernel_rfl) (Cw.out) (yY.out) fun A w0 a0=>?_;generalize j:AV.bE [(oP S e).1.av,.i (oP S e).2]=R;unfold oP at j;obtain⟨x,g⟩:∃x,x=S.aB e:=⟨_,rfl⟩;have b:S.aH[e.toNat]?=some ⟨⟨x.now,x.closed,x.bK,x.cN,x.aJ,x.bD,x.down⟩,x.ahead⟩:=by rw[g];exact b
 have J:=E.pl;have Q:=E.bl;have D:=E.rl;have p:=E.pr;have P:=E.dl;rw[<-g]at J Q D p P;intro mm w aa a;rw[Tryz.ntmps63]at a;refine H.go (ev1 _ [(S.aH.length:Int),e,(S.weights.length:Int)] (vT S [.I x.now,.bool x.closed]) (sT S [bS x.bK,aA x.cN,bN x.aJ,aA x.bD,aA x.down,bX x.ahead]) (.d (aE b) .nil)) (xK kn) a (fd:=mF (.i e) (oL 0) (.i 0)) (bd:=mB S e x x.down++[lB []]) ?_;intro mm w aa a;have a:@fD dY dZ A w0 a0 mm w aa (mF (.i e) (oL 0) (.i 0)) (fH (mB S e x (mA S e 0)++[lB (jN S e 0)])):=by unfold mA jN;rw[<-g];exact a
 refine loop oA C z B G X g a ?_
 intro mm w aa a;have O:(S.aZ e ((S.aB e).uT (mA S e S.weights.length))).av=S.setRow e [.i x.now,.c (.bool x.closed),.lit 4 (bS x.bK),.lit 1 (aA x.cN),.lit 11 (bN x.aJ),.lit 1 (aA x.bD),.lit 1 (aA (mA S e S.weights.length)),.lit 8 (bX x.ahead)]:=by
  rw[bF.nV,<-g];rfl
 rw[O]at n;obtain⟨y,s⟩:=(K.trans L).ex;generalize S.aZ e ((S.aB e).uT (mA S e S.weights.length))=S0 at *;generalize mA S e S.weights.length=u at *;generalize jN S e S.weights.length=k at *;obtain⟨m,M⟩:∃m:Nat,k.length=m:=⟨_,rfl⟩;rw[M]at a;generalize cZ S0 e k=r at *;obtain⟨S1,f⟩:=r;dsimp only at *;subst s;by_cases t:f=0
 .subst t
  rw[if_neg (by simp)]at j;subst j;exact ro.go (ev1 _ [(S.aH.length:Int),e,(S.weights.length:Int),(m:Int)] (vT S [.I x.now,.bool x.closed]) (sT S [bS x.bK,aA x.cN,bN x.aJ,aA x.bD,aA x.down,bX x.ahead,aA u,bU k,aX y]) (.d (aE b) .nil)) (xK (kc n kn)) a
 .rw[if_pos t]at j
  subst j;have Y:1<=f/\f<=20:=by unfold gY at e1;omega
  exact F.go (ev1 _ [(S.aH.length:Int),e,(S.weights.length:Int),(m:Int),f] (vT S [.I x.now,.bool x.closed]) (sT S [bS x.bK,aA x.cN,bN x.aJ,aA x.bD,aA x.down,bX x.ahead,aA u,bU k,aX y]) (.d (aE b) .nil)) (xK (kc n kn)) a
end
end MK
def ab2 {S:bF} {e:Int} (G:Gn S) (X:Ix S e 0):Ck 63 [S.av,.i e] (.bE [(oP S e).1.av,.i (oP S e).2]) :=
 MK.walk MK.alB MK.an7 .of .of .of .of .of G X
end
section
open Mc
def bF.es (S:bF) (E:List dE) (c:List kJ):bF:={ S with aH:=E,aF:=c }
def Sv.es {S T:bF} (h:Sv S T):T=S.es T.aH T.aF:=by
 obtain⟨-,-,-,i,g,f,e,d,c,b,a⟩:=h;cases T;cases S;simp only[bF.es]at *;subst i g f e d c b a;rfl
namespace CL
abbrev XD (e i:AV):List AV:=fr 99 [(1,e),(2,.ptr 10 0 0 0),(4,.ptr 10 1 0 0),(5,.i 0),(6,.ptr 10 2 0 0),(7,i)]
abbrev N0 (e i k:AV):List AV:=fr 99 [(1,e),(2,.ptr 10 0 0 0),(4,.ptr 10 1 0 0),(5,.i 0),(6,.ptr 10 2 0 0),(7,i),(8,k)]
abbrev sB (S:bF):Mc.dI:=.cells 31 10 [[.i S.bJ,.i S.bH,.lit 1 (aA S.weights),.lit 1 (aW S.methods),.lit 1 (aW S.bT),.lit 8 (aX S.aH),.lit 8 (fU S.aO),.lit 9 (dN S.aF),.lit 6 (eO S.aG),.i S.done]]
abbrev cB (S T:bF):List Mc.dI:=[sB S,.cells 31 10 He,sB T]
noncomputable def body:Code:=(Tryz.f30).body.getD .skip
abbrev ami (c:Code) (r:Option (RT Out)):Prop:=uG { vars:=Kes,facts:=Kct,lens:=KbT,iG:=Zu } c (Kcf++List.replicate 97 .undef) [] [some 0,some 1,some 2] (XD (.v 1) (.i 0)) [Yd,Vn,Yd] r
noncomputable def acI:Option (RT Out):=yZ { vars:=Kes,facts:=Kct,lens:=KbT,iG:=Zu } body (Kcf++List.replicate 97 .undef:List AV).length (Kcf++List.replicate 97 .undef) [] 0
def aok:ami body acI:=⟨rfl,by decide +kernel,by decide +kernel⟩
abbrev amh (c:Code) (r:Option (RT Out)):Prop:=uG { vars:=KcQ,facts:=HP,lens:=KbT } c (XD (.v 1) (.v 3)) KE [some 0,some 1,some 2] (N0 (.v 1) (.v 3) (.i 0)) KE r
noncomputable def alD:Option (RT Out):=yZ { vars:=KcQ,facts:=HP,lens:=KbT } (bB acI) (XD (.v 1) (.v 3):List AV).length (XD (.v 1) (.v 3)) KE 3
def aoj:amh (bB acI) alD:=⟨rfl,by decide +kernel,by decide +kernel⟩
abbrev agZ (c:Code):Prop:=eA { vars:=[(0,4),(0,3),(1,5),(0,4),(0,1)],facts:=HP,lens:=Wo,iG:=GR,bQ:=[(62,ZH,(.bE [UR,.i 0]))] } c (N0 (.v 1) (.v 3) (.v 4)) KE 0 [some 0,some 1,some 2] (N0 (.v 1) (.v 3) Kd3) [Yd,Vn,(.cells 31 10 [Vt])]
abbrev ac9 (c:Code):Prop:=OE { vars:=[(0,4),(0,3),(1,5),(0,4),(0,1),(1,20)],facts:=HP,lens:=Wo,iG:=GR,bQ:=[(62,ZH,(.bE [UR,.v 5]))] } Tryz.f30 c (N0 (.v 1) (.v 3) (.v 4)) KE BY
abbrev ag0 (c:Code):Prop:=eA { vars:=[(0,4),(0,3),(1,5),(0,4),(1,2)],facts:=HP,lens:=Wo,iG:=GU } c (N0 (.v 1) (.v 3) (.i 0)) KE 5 [some 0,some 1,some 2] (N0 (.v 1) (.v 3) (.i 0)) KE
abbrev ag1 (c:Code):Prop:=eA { vars:=[(0,4),(0,3),(1,5),(0,4),(4,4)],facts:=HP,lens:=Wo,iG:=GU } c (N0 (.v 1) (.v 3) (.i 0)) KE 5 [some 0,some 1,some 2] (N0 (.v 1) (.v 3) (.i 0)) KE
abbrev ac8 (c:Code):Prop:=eA { vars:=KcQ,facts:=HP,lens:=KbT } c (N0 (.v 1) (.v 3) (.i 2)) KE 5 [some 0,some 1,some 2] (N0 (.v 1) (.v 3) (.i 2)) KE
abbrev ag2 (o:Option (RT Out)):Prop:=NT { vars:=KcQ,facts:=HP,lens:=KbT } o 3 (N0 (.v 1) (.v 3) (.o 3)) KE 0 [some 0,some 1,some 2] (XD (.v 1) Kd5) KE
noncomputable abbrev fC:Func:=Tryz.f30
section
variable {S:bF} {e:Int} {A:Nat->Prop} {w0:World} {a0:Act} {R:AV}
def inner (oI:Option (RT Out)) (ro:agZ (bB oI)) (re:ac9 (bB oI)) (rl:ag0 (bB oI)) (rh:ag1 (bB oI)) (rt:ac8 (bB oI)) (K:ag2 oI)
  (G:Gn S) {T:bF} (V:Sv S T) (N:0<=e/\e<S.aH.length) {j:Nat} (hj:j<S.weights.length) {Φ:kI} (B:∀a w,Fin Tryz.prog fC A w0 a0 R .ret a w->Φ .ret a w)
  {mm:Nat->St} {w:World} {aa:Act} (b:@fD dY dZ A w0 a0 mm w aa (N0 (.i e) (.i (j:Int)) (.i 0)) (fH (cB S T)))
  (H:∀f,S.cE e (j:Int)=3->(jD T e (j:Int)).2=f->f≠0->R=.bE [S.av,.i f])
  (L:∀U,Sv S U->(S.cE e (j:Int)=3->jD T e (j:Int)=(U,0))->(S.cE e (j:Int)≠3->U=T)->∀mm w aa,@fD dY dZ A w0 a0 mm w aa (XD (.i e) (.i (1+(j:Int)))) (fH (cB S U))->Φ .normal aa w) :
  (Code.loop (bB oI)).wpIn (fw none) 9 Tryz.prog (KS Tryz.prog (oK oI) Φ) aa w:=by
 have h:=G.toStOk;have hn:=h.hn;have hw:=h.hw;have X:Ix S e (j:Int):=⟨N.1,N.2,by omega,by omega⟩;have ab:=h.mb' X;have D:e.toNat<S.methods.length:=by rw[h.Nd];omega
 have u:S.methods[e.toNat]?=some (S.methods.getD e.toNat []):=getD_some D;have AP:=h.AP _ (dA (d:=[]) D);have t:(S.methods.getD e.toNat [])[(j:Int).toNat]?=some (S.cE e (j:Int)):=getD_some (by omega);have Nd:=h.Nd;obtain⟨ms,E⟩:∃ms,ms=S.methods.getD e.toNat []:=⟨_,rfl⟩;rw[<-E]at u AP t;refine dQ (fun n a' w=>∃(k:Nat) (U:bF),n=2-k/\k<=2/\Sv S U/\(S.cE e (j:Int)≠3->k=0)/\(k=0->U=T)/\(k=1->hH T e (j:Int) 0=(U,0))/\(k=2->jD T e (j:Int)=(U,0))/\∃mm,@fD dY dZ A w0 a0 mm w a' (N0 (.i e) (.i (j:Int)) (.i (k:Int))) (fH (cB S U))) ?_ (n:=2) ⟨0,T,rfl,by omega,V,fun _=>rfl,fun _=>rfl,fun h=>(by cases h),fun h=>(by cases h),_,b⟩;clear b;rintro n aa w ⟨k,U,rfl,hk,p,k0,M,k2,k3,mm,b⟩;have x:=p.es;have ac:U.aH.length=S.aH.length:=p.le;have C:=p.cE e (j:Int);by_cases l:S.cE e (j:Int)=3
 .rcases(by omega:k=2\/k<2)with rfl|ad
  .have fin:=L U p (fun _=>k3 rfl) (fun h=>absurd l h)
   generalize U.aH=g at *;generalize U.aF=c at *;subst x;refine rt.go (ev1 _ [(S.aH.length:Int),e,(S.weights.length:Int),(j:Int)] (vT S []) (sT S [aX g,dN c]) .nil) (xK kn) b (fd:=N0 (.i e) (.i (j:Int)) (.i 2)) (bd:=cB S (S.es g c)) ?_;intro mm w aa b;obtain⟨k,v⟩:∃k:Int,k=2:=⟨_,rfl⟩;have b:@fD dY dZ A w0 a0 mm w aa (N0 (.i e) (.i (j:Int)) (.i k)) (fH (cB S (S.es g c))):=by rw[v];exact b
   refine K.go (ev1 _ [(S.aH.length:Int),e,(S.weights.length:Int),(j:Int)] (vT S [.I k]) (sT S [aX g,dN c]) .nil) (xK kn) b (fd:=XD (.i e) (.i (1+(j:Int)))) (bd:=cB S (S.es g c)) ?_;exact fin
  .have P:=p.ix X
   have O:=Se p.gn P (loc:=(k:Int)) (by omega) (by omega) (C.trans l);obtain⟨Y,e1,z1⟩:=wH p.gn P (loc:=(k:Int)) (by omega) (by omega) (C.trans l)
   have st:∀W f,hH U e (j:Int) (k:Int)=(W,f)->(f≠0->(jD T e (j:Int)).2=f)/\(f=0->(k=0->hH T e (j:Int) 0=(W,0))/\(k=1->jD T e (j:Int)=(W,0))):=by
    intro W f s;rcases(by omega:k=0\/k=1)with rfl|rfl
    .have:=M rfl
     subst this;have s:hH U e (j:Int) 0=(W,f):=s;refine⟨fun o=>?_,fun o=>⟨fun _=>by rw[s,o],fun h=>(by cases h)⟩⟩;unfold jD;rw[s];dsimp only;rw[if_pos o]
    .have q:=k2 rfl
     have s:hH U e (j:Int) 1=(W,f):=s;refine⟨fun o=>?_,fun o=>⟨fun h=>(by cases h),fun _=>?_⟩⟩
     .unfold jD
      rw[q];dsimp only;rw[if_neg (by simp),s];dsimp only;rw[if_pos o]
     .unfold jD
      rw[q];dsimp only;rw[if_neg (by simp),s];dsimp only;rw[if_neg (by simp[o])]
   generalize hH U e (j:Int) (k:Int)=r at *;obtain⟨W,f⟩:=r;obtain⟨Z,J⟩:=st W f rfl;dsimp only at *;have Q:=p.trans Y;have F:=Q.es;generalize W.aH=z at *;generalize W.aF=y at *;generalize U.aH=g at *;generalize U.aF=c at *;subst x;subst F;rw[l]at t;by_cases o:f=0
   .subst o
    refine ro.go (ev1 _ [(S.aH.length:Int),e,(S.weights.length:Int),(j:Int),k] (vT S []) (sT S [aX g,dN c,aA ms,aX z,dN y]) (.d (aS u) (.d (aI t) .nil))) (xK (kc O kn)) b (fd:=N0 (.i e) (.i (j:Int)) (.i (1+(k:Int)))) (bd:=cB S (S.es z y)) ?_;intro mm w aa b;rw[show(1+(k:Int))=((k+1:Nat):Int)by omega]at b;exact⟨_,by omega,k+1,S.es z y,rfl,by omega,Q,fun h=>absurd l h,fun h=>(by omega),fun h=>(J rfl).1 (by omega),fun h=>(J rfl).2 (by omega),mm,b⟩
   .rw[H f l (Z o) o]at B
    have f2:1<=f/\f<=20:=by unfold gY at e1;omega
    exact re.go (ev1 _ [(S.aH.length:Int),e,(S.weights.length:Int),(j:Int),k,f] (vT S []) (sT S [aX g,dN c,aA ms,aX z,dN y]) (.d (aS u) (.d (aI t) .nil))) (xK (kc O kn)) b fun a w h=>vW (B a w h) _
 .obtain rfl:k=0:=k0 l
  obtain rfl:U=T:=M rfl;have fin:=L U p (fun h=>absurd h l) (fun _=>rfl);generalize U.aH=g at *;generalize U.aF=c at *;subst x;generalize S.cE e (j:Int)=m at *
  have fin:∀mm w aa,@fD dY dZ A w0 a0 mm w aa (N0 (.i e) (.i (j:Int)) (.i 0)) (fH (cB S (S.es g c)))->KS Tryz.prog (oK oI) Φ (AX.exit 3).to aa w:=by
   intro mm w aa b;obtain⟨k,v⟩:∃k:Int,k=0:=⟨_,rfl⟩;have b:@fD dY dZ A w0 a0 mm w aa (N0 (.i e) (.i (j:Int)) (.i k)) (fH (cB S (S.es g c))):=by rw[v];exact b
   refine K.go (ev1 _ [(S.aH.length:Int),e,(S.weights.length:Int),(j:Int)] (vT S [.I k]) (sT S [aX g,dN c]) .nil) (xK kn) b (fd:=XD (.i e) (.i (1+(j:Int)))) (bd:=cB S (S.es g c)) ?_;exact fin
  rcases(by omega:(1<=m/\m<=2)\/m=4)with h1|h1
  .refine rl.go (ev1 _ [(S.aH.length:Int),e,(S.weights.length:Int),(j:Int),m] (vT S []) (sT S [aX g,dN c,aA ms]) (.d (aS u) (.d (aI t) .nil))) (xK kn) b (fd:=N0 (.i e) (.i (j:Int)) (.i 0)) (bd:=cB S (S.es g c)) ?_
   exact fin
  .refine rh.go (ev1 _ [(S.aH.length:Int),e,(S.weights.length:Int),(j:Int),m] (vT S []) (sT S [aX g,dN c,aA ms]) (.d (aS u) (.d (aI t) .nil))) (xK kn) b (fd:=N0 (.i e) (.i (j:Int)) (.i 0)) (bd:=cB S (S.es g c)) ?_
   exact fin
def walk (oA oI:Option (RT Out)) (rA:ami body oA) (rc:ai1 { vars:=Kes,facts:=Kct,lens:=KbT,iG:=[Z8] } Tryz.f30 body (Kcf++List.replicate 97 .undef) [] BX) (rS:amh (bB oA) oI) (ro:agZ (bB oI)) (re:ac9 (bB oI)) (rl:ag0 (bB oI)) (rh:ag1 (bB oI)) (rt:ac8 (bB oI)) (rI:ag2 oI) (rx:eA { vars:=Kes,facts:=Kct,lens:=KbT } (bB oA) (XD (.v 1) (.v 2)) KE 3 [some 0,some 1,some 2] (XD (.v 1) (.v 2)) KE) (Z:kH { vars:=[(0,4),(0,3),(1,5),(1,20)],facts:=Kct,lens:=KbT,bQ:=[(63,YA,(.bE [U6,.v 3]))] } Tryz.f30 oA 1 (XD (.v 1) (.v 2)) KE ((.bE [Keg,.v 3]))) (Y:kH { vars:=Kes,facts:=Kct,lens:=[Kfc,(1,[([2],1)]),(9,[([0],1)]),(15,[([2],2)]),(16,[([],17)]),(17,[([2],1)]),(18,[([2],1)]),(19,[([2],1)])],iG:=[(0,[([1],1)],YR),(9,[([1],1)],[.o 4,.o 5,.q 4 15,.q 1 16,.q 11 17,.q 1 18,.q 1 19,.q 8 20])],bQ:=[(63,YA,(.bE [U6,.i 0]))] } Tryz.f30 oA 1 (XD (.v 1) (.v 2)) KE ((.bE [(.agg [.o 0,.o 1,.q 1 1,.q 1 2,.q 1 3,(.seq 8 9 [([([1],1)],[.o 4,KeF,.q 4 15,.q 1 16,.q 11 17,.q 1 18,.q 1 19,(.lit 8 [YR])])] []),.q 8 4,.q 9 8,.q 6 6,.o 2]),.i 0])))
  (G:Gn S) (an:1<=S.weights.length) (X:Ix S e 0) :
  Ck 30 [S.av,.i e] (.bE [(iZ S e).1.av,.i (iZ S e).2]):=by
 have h:=G.toStOk;have hn:=h.hn;have hw:=h.hw;have af:=X.e0;have ae:=X.e1;have H:=h.at_ X;obtain⟨x,J⟩:∃x,x=S.aB e:=⟨_,rfl⟩;have t:S.aH[e.toNat]?=some ⟨⟨x.now,x.closed,x.bK,x.cN,x.aJ,x.bD,x.down⟩,x.ahead⟩:=by rw[J];exact H
 have al:=G.al x (by rw[J];exact a0a H);refine CK.hY Tryz.func30 (c:=body) (by kernel_rfl) (Cw.out) (yY.out) fun A w0 a0=>?_;generalize hR:AV.bE [(iZ S e).1.av,.i (iZ S e).2]=R;have l:∀r:bF×Int,iZ S e=r->R=.bE [r.1.av,.i r.2]:=fun r O=>by rw[<-hR,O]
 clear hR;intro mm w aa b;rw[Tryz.ntmps30]at b;by_cases K:x.closed=true
 .rw[K]at t
  rw[l (S,7) (by unfold iZ;rw[<-J,if_pos K])];exact rc.go (ev1 _ [(S.aH.length:Int),e,(S.weights.length:Int)] (vT S [.I x.now]) (sT S [bS x.bK,aA x.cN,bN x.aJ,aA x.bD,aA x.down,bX x.ahead]) (.d (aE t) .nil)) (xK kn) b
 have F:x.closed=false:=by simpa using K
 have ah:x.ahead=[]:=by
  have h1:=al.1;rw[show x.sh.2.1=x.closed from rfl,F]at h1;exact a1f.1 h1
 rw[F,ah]at t;have l:∀r:bF×Int,(match jE e S.weights.length 0 S with
  |(T,f)=>if f≠0 then(S,f)else match oP T e with|(U,f)=>if f≠0 then(S,f)else(U.aZ e ((U.aB e).shut x.toEntC),0))=r->R=.bE [r.1.av,.i r.2]:=fun r O=>l r (by unfold iZ;rw[<-J,if_neg K];exact O)
 refine rA.go (ev1 _ [(S.aH.length:Int),e,(S.weights.length:Int)] (vT S [.I x.now]) (sT S [bS x.bK,aA x.cN,bN x.aJ,aA x.bD,aA x.down]) (.d (aE t) .nil)) (xK kn) b (fd:=XD (.i e) (.i 0)) (bd:=cB S S) ?_;intro mm w aa b;refine dQ (fun n a' w=>∃(j:Nat) (T:bF),n=S.weights.length-j/\j<=S.weights.length/\Sv S T/\jE e S.weights.length 0 S=jE e (S.weights.length-j) j T/\∃mm,@fD dY dZ A w0 a0 mm w a' (XD (.i e) (.i (j:Int))) (fH (cB S T))) ?_ (n:=S.weights.length) ⟨0,S,rfl,a0n _,.refl G,rfl,_,b⟩;rintro n aa w ⟨j,T,rfl,hj,V,z,mm,b⟩;have N:=V.es;rcases(by omega:j=S.weights.length\/j<S.weights.length)with rfl|ad
 .rw[a2t]at z
  have z:jE e S.weights.length 0 S=(T,0):=z;rw[z]at l;dsimp only at l;rw[if_neg (by simp)]at l;have L:=V.ix X;have hM:=ab2 V.gn L;obtain⟨u,e1⟩:=EM V.gn L;have s:=(u.gn V.gn).toStOk.mQ (u.ix L);have C:=(u.gn V.gn).toStOk.at_ (u.ix L);generalize oP T e=r at *;obtain⟨U,f⟩:=r;dsimp only at *;obtain⟨B,rfl⟩:=u.ex;have aj:B.length=S.aH.length:=by have:=u.len;have:=V.le;exact u.len.trans V.le
  generalize T.aH=p at *;generalize T.aF=m at *;subst N;obtain⟨y,hy⟩:∃y,y=((S.es p m).bM B).aB e:=⟨_,rfl⟩;rw[<-hy]at s C l;have P:B[e.toNat]?=some ⟨⟨y.now,y.closed,y.bK,y.cN,y.aJ,y.bD,y.down⟩,y.ahead⟩:=C;have pl:y.bK.length=2*S.weights.length:=s.pl;have bl:=s.bl;have ak:y.aJ.length=S.weights.length:=s.rl;have am:y.bD.length=S.weights.length:=s.pr;have dl:y.down.length=S.weights.length:=s.dl;refine rx.go (ev1 _ [(S.aH.length:Int),e,(S.weights.length:Int)] (vT S []) (sT S [aX p,dN m]) .nil) (xK kn) b (fd:=XD (.i e) (.i (S.weights.length:Int))) (bd:=cB S (S.es p m)) ?_;intro mm w aa b;by_cases h0:f=0
  .subst h0
   rw[if_neg (by simp)]at l
   rw[l _ rfl];have ag:(((S.es p m).bM B).aZ e (y.shut x.toEntC)).av=((S.es p m).bM B).setRow e [.i y.now,.c (.bool true),.lit 4 (bS y.bK),.lit 1 (aA y.cN),.lit 11 (bN y.aJ),.lit 1 (aA y.bD),.lit 1 (aA y.down),.lit 8 [[.i x.now,.c (.bool false),.lit 4 (bS x.bK),.lit 1 (aA x.cN),.lit 11 (bN x.aJ),.lit 1 (aA x.bD),.lit 1 (aA x.down),.lit 8 []]]]:=by
    rw[bF.nV,<-F];rfl
   dsimp only;rw[ag];exact Y.go (ev1 _ [(S.aH.length:Int),e,(S.weights.length:Int)] (vT S [.I x.now,.I y.now,.bool y.closed]) (sT S [aX p,dN m,aX B,bS x.bK,aA x.cN,bN x.aJ,aA x.bD,aA x.down,bS y.bK,aA y.cN,bN y.aJ,aA y.bD,aA y.down,bX y.ahead]) (.d (aE t) (.d (aE P) .nil))) (xK (kc hM kn)) b
  .rw[if_pos h0]at l
   rw[l _ rfl];have f2:1<=f/\f<=20:=by unfold gY at e1;omega
   exact Z.go (ev1 _ [(S.aH.length:Int),e,(S.weights.length:Int),f] (vT S []) (sT S [aX p,dN m,aX B]) .nil) (xK (kc hM kn)) b
 .have ai:jE e (S.weights.length-j) j T=if T.cE e (j:Int)=3 then(match jD T e (j:Int)with|(U,f)=>if f≠0 then(T,f)else jE e (S.weights.length-(j+1)) (j+1) U)else jE e (S.weights.length-(j+1)) (j+1) T:=by
   obtain⟨k,hk⟩:∃k,S.weights.length-j=k+1:=⟨S.weights.length-j-1,by omega⟩;rw[hk,show S.weights.length-(j+1)=k by omega];rfl
  rw[ai,V.cE]at z;have V0:=V;have nx:∀U,Sv S U->jE e S.weights.length 0 S=jE e (S.weights.length-(j+1)) (j+1) U->∀mm w aa,@fD dY dZ A w0 a0 mm w aa (XD (.i e) (.i (1+(j:Int)))) (fH (cB S U))->∃n',n'<S.weights.length-j/\∃(E:Nat) (W:bF),n'=S.weights.length-E/\E<=S.weights.length/\Sv S W/\jE e S.weights.length 0 S=jE e (S.weights.length-E) E W/\∃mm,@fD dY dZ A w0 a0 mm w aa (XD (.i e) (.i (E:Int))) (fH (cB S W)):=by
   intro U Q hU mm w aa b;rw[show(1+(j:Int))=((j+1:Nat):Int)by omega]at b;exact⟨_,by omega,j+1,U,rfl,by omega,Q,hU,mm,b⟩
  have ab:∀Φ:kI,(∀mm w aa,@fD dY dZ A w0 a0 mm w aa (N0 (.i e) (.i (j:Int)) (.i 0)) (fH (cB S T))->(Code.loop (bB oI)).wpIn (fw none) 9 Tryz.prog (KS Tryz.prog (oK oI) Φ) aa w)->(bB oA).wpIn (fw none) 9 Tryz.prog Φ aa w:=by
   intro Φ kk;generalize T.aH=p at *;generalize T.aF=m at *;subst N;refine rS.go (ev1 _ [(S.aH.length:Int),e,(S.weights.length:Int),(j:Int)] (vT S []) (sT S [aX p,dN m]) .nil) (xK kn) b (fd:=N0 (.i e) (.i (j:Int)) (.i 0)) (bd:=cB S (S.es p m)) ?_;exact kk
  refine ab _ ?_;intro mm w aa b;refine inner (R:=R) oI ro re rl rh rt rI G V ⟨af,ae⟩ ad ?_ b ?_ ?_
  .intro a w h
   exact vW h _
  .intro f D hf M
   refine l (S,f) ?_;rw[z,if_pos D];generalize jD T e (j:Int)=r at *;obtain⟨U,g⟩:=r;dsimp only at hf |-;subst hf;rw[if_pos M];dsimp only;rw[if_pos M]
  .intro U Q h3 ac mm w aa b
   refine nx U Q ?_ mm w aa b;rw[z];by_cases D:S.cE e (j:Int)=3
   .rw[if_pos D,h3 D]
    dsimp only;rw[if_neg (by simp)]
   .rw[if_neg D,ac D]
end
end CL
def I1 {S:bF} {e:Int} (G:Gn S) (a:1<=S.weights.length) (X:Ix S e 0):Ck 30 [S.av,.i e] (.bE [(iZ S e).1.av,.i (iZ S e).2]) :=
 CL.walk CL.acI CL.alD CL.aok .of CL.aoj .of .of .of .of .of .of .of .of .of G a X
end
section
open Mc
variable {S T:bF} {item ref W U:Int}
inductive C6
 |rJ (e item loc q a:Int)
 |rM (q a ref:Int)
 |oH (q ref:Int)
 |Mr (e item loc q a:Int)
 |take (q a ref:Int)
 |Ek (e item loc q:Int)
 |count (e item loc q:Int)
 |move (e item loc dst q:Int)
 |rH (e item a:Int)
 |qX (e item a:Int)
 |land (dst a:Int) (refs:List Int)
 |P7 (e item loc dst q a:Int)
 |yF (loc q ref:Int)
 |close (e:Int)
 |xR (e:Int)
 |next (e:Int)
def C6.av:C6->AV
 | .rJ e item loc q a=>eM 1 e item loc 0 q a 0
 | .rM q a ref=>eM 2 0 0 0 0 q a ref
 | .oH q ref=>eM 3 0 0 0 0 q 0 ref
 | .Mr e item loc q a=>eM 4 e item loc 0 q a 0
 | .take q a ref=>eM 5 0 0 0 0 q a ref
 | .Ek e item loc q=>eM 6 e item loc 0 q 0 0
 | .count e item loc q=>eM 7 e item loc 0 q 0 0
 | .move e item loc dst q=>eM 8 e item loc dst q 0 0
 | .rH e item a=>eM 9 e item 0 0 0 a 0
 | .qX e item a=>eM 10 e item 0 0 0 a 0
 | .land dst a refs=>tX dst a refs
 | .P7 e item loc dst q a=>eM 12 e item loc dst q a 0
 | .yF loc q ref=>eM 13 0 0 loc 0 q 0 ref
 | .close e=>eM 14 e 0 0 0 0 0 0
 | .xR e=>eM 15 e 0 0 0 0 0 0
 | .next e=>eM 16 e 0 0 0 0 0 0
abbrev QB (q:Int):Prop:=1<=q/\q<=1073741824
abbrev AB (a:Int):Prop:=0<=a/\a<=1073741824
abbrev LB (l:Int):Prop:=0<=l/\l<=1
abbrev RB (r:Int):Prop:=0<=r/\r<=39
abbrev EB (n:Nat) (e:Int):Prop:=0<=e/\e<(n:Int)
def dX (n w:Nat):C6->Prop
 | .rJ e item loc q a=>EB n e/\EB w item/\LB loc/\QB q/\AB a
 | .rM q a ref=>QB q/\AB a/\RB ref
 | .oH q ref=>QB q/\RB ref
 | .Mr e item loc q a=>EB n e/\EB w item/\LB loc/\QB q/\AB a
 | .take q a ref=>QB q/\AB a/\RB ref
 | .Ek e item loc q=>EB n e/\EB w item/\LB loc/\QB q
 | .count e item loc q=>EB n e/\EB w item/\LB loc/\0<=q/\q<=1073741824
 | .move e item loc dst q=>EB n e/\EB w item/\LB loc/\LB dst/\dst≠loc/\QB q
 | .rH e item a=>EB n e/\EB w item/\AB a
 | .qX e item a=>EB n e/\EB w item/\AB a
 | .land dst a refs=>(0<=dst/\dst<=2)/\AB a/\((∃r0,refs=[r0]/\RB r0)\/(∃r0 r1,refs=[r0,r1]/\RB r0/\RB r1/\r1≠r0)\/(∃r0 r1 r2,refs=[r0,r1,r2]/\RB r0/\RB r1/\RB r2/\r0<r1/\r1<r2))
 | .P7 e item loc dst q a=>EB n e/\EB w item/\LB loc/\EB n dst/\dst≠e/\QB q/\AB a
 | .yF loc q ref=>LB loc/\QB q/\RB ref
 | .close e=>EB n e
 | .xR e=>EB n e
 | .next e=>EB n e
def qU:C6->Prop
 | .rJ e item loc q a=>q<=24/\a<=1000
 | .rM q a ref=>a<=1000
 | .oH q ref=>True
 | .Mr e item loc q a=>q<=24/\a<=1000
 | .take q a ref=>q<=24/\a<=1000
 | .Ek e item loc q=>True
 | .count e item loc q=>q<=24
 | .move e item loc dst q=>q<=24
 | .rH e item a=>a<=1000
 | .qX e item a=>True
 | .land dst a refs=>a<=1000
 | .P7 e item loc dst q a=>q<=24/\a<=1000
 | .yF loc q ref=>q<=24
 | .close e=>True
 | .xR e=>True
 | .next e=>True
def doS (S:bF):C6->bF×Int
 | .rJ e item loc q a=>nD S e item loc q a
 | .rM q a ref=>Oo S ref q a
 | .oH q ref=>sbS S ref q
 | .Mr e item loc q a=>A4 S e item loc q a
 | .take q a ref=>A0 S ref q a
 | .Ek e item loc q=>vJ S e item loc q
 | .count e item loc q=>vS S e item loc q
 | .move e item loc dst q=>A9 S e item loc dst q
 | .rH e item a=>oJ S e item a
 | .qX e item a=>vM S e item a
 | .land dst a refs=>qY S dst a refs
 | .P7 e item loc dst q a=>Ei S e item loc dst q a
 | .yF loc q ref=>rU S loc q ref
 | .close e=>iZ S e
 | .xR e=>pV S e
 | .next e=>A7 S e
def nT (S:bF) (o:C6):bF×Int:=eT S (doS S o)
structure Stp (S T:bF):Prop where
 gn:Gn T
 le:T.aH.length=S.aH.length
 wt:T.weights=S.weights
 pe:T.bH=S.bH
 en:T.bJ=S.bJ
 me:T.methods=S.methods
 dn:T.done<=S.done+1
def Stp.refl {S:bF} (G:Gn S):Stp S S:=⟨G,rfl,rfl,rfl,rfl,rfl,by omega⟩
def oD.stp {r:bF×Int} (G:Gn S) (h:oD S r):Stp S (eT S r).1:=by
 obtain⟨g,e,no,c,a,pe,en,b,d⟩:=h;obtain⟨T,f⟩:=r;dsimp only at *;unfold eT;split
 .refine⟨⟨⟨g.hn,g.hw,g.Nd,g.ET,g.AP,g.lS,g.mb,g.cb,g.aB,g.ahead⟩,g.NY,g.N9,g.Fo,g.Eu,g.C7,g.L7,?_,g.al,g.pb⟩,c,a,pe,en,b,?_⟩
  .show 0<=1+T.done
   have:=g.d0;omega
  .show 1+T.done<=_
   omega
 .exact .refl G
def Pg (G:Gn S) {e:Int} (x:Ix S e 0) (a:S.bH<=12):oD S (A7 S e):=by
 unfold A7;split
 .exact .bad G ⟨by simp,by simp⟩
 .split
  .exact .bad G ⟨by simp,by simp⟩
  .exact⟨aj3 G x (by omega),⟨by simp,by simp⟩,fun h=>absurd rfl h,by simp[bF.aZ],rfl,rfl,rfl,rfl,rfl⟩
def IP (G:Gn S) {e:Int} (x:Ix S e 0):oD S (pV S e):=by
 unfold pV;split
 .exact .bad G ⟨by simp,by simp⟩
 .split
  .rename_i y a
   exact⟨aeo G x a,⟨by simp,by simp⟩,fun h=>absurd rfl h,by show(S.aH.set _ _).length=_;simp,rfl,rfl,rfl,rfl,rfl⟩
  .exact .bad G ⟨by simp,by simp⟩
def oD.dT {r:bF×Int} (G:Gn S) (a:S.done<=1000000) (h:oD S r):0<=r.1.done/\r.1.done<=1000000:=by
 have:=G.d0;rw[h.dn];omega
def anz (G:Gn S) (g:S.done<=1000000) (A:∀v∈S.weights,0<=v/\v<=1073741824) (s:1<=S.weights.length) (t:1<=S.bH/\S.bH<=12) {o:C6} (ok:dX S.aH.length S.weights.length o) :
  Ck 16 [S.av,o.av] (.bE [(nT S o).1.av,.i (nT S o).2])/\Stp S (nT S o).1:=by
 have C:=G.hn;have B:=G.hw
 have fin:∀{r:bF×Int} {k:AV},doS S o=r->oD S r->((Ck 16 [S.av,o.av] (.bE [(eT S r).1.av,.i (eT S r).2])))->Ck 16 [S.av,o.av] (.bE [(nT S o).1.av,.i (nT S o).2])/\Stp S (nT S o).1:=by
  intro r k e F c;unfold nT;rw[e];exact⟨c,F.stp G⟩
 cases o with
 |rJ e item loc q a =>
  obtain⟨d,b,f,h,j⟩:=ok;obtain⟨c,F⟩:=Pt G g ⟨d.1,d.2,b.1,b.2⟩ f h (a:=a) ⟨j.1,by omega⟩;exact fin (k:=.emp) rfl F (d_step1 (anx ⟨d.1,by omega⟩ ⟨b.1,by omega⟩ f h j) c F.err (F.dT G g))
 |rM q a ref =>
  obtain⟨d,b,f⟩:=ok;obtain⟨c,F⟩:=amy G g d (a:=a) ⟨b.1,by omega⟩ f;exact fin (k:=.emp) rfl F (akJ (anw d b f) c F.err (F.dT G g))
 |oH q ref =>
  obtain⟨d,f⟩:=ok;obtain⟨c,F⟩:=aoF G g d f;exact fin (k:=.emp) rfl F (akI (anv d f) c F.err (F.dT G g))
 |Mr e item loc q a =>
  obtain⟨d,b,f,h,j⟩:=ok;obtain⟨c,F⟩:=aip G g ⟨d.1,d.2,b.1,b.2⟩ f h (a:=a) ⟨j.1,by omega⟩;exact fin (k:=.emp) rfl F (akH (anu ⟨d.1,by omega⟩ ⟨b.1,by omega⟩ f h j) c F.err (F.dT G g))
 |take q a ref =>
  obtain⟨d,b,f⟩:=ok;obtain⟨c,F⟩:=aif G g d (a:=a) ⟨b.1,by omega⟩ f;exact fin (k:=.emp) rfl F (akG (ant d b f) c F.err (F.dT G g))
 |Ek e item loc q =>
  obtain⟨d,b,f,h⟩:=ok;obtain⟨c,F⟩:=adF G g ⟨d.1,d.2,b.1,b.2⟩ f h;exact fin (k:=.emp) rfl F (akF (ans ⟨d.1,by omega⟩ ⟨b.1,by omega⟩ f h) c F.err (F.dT G g))
 |count e item loc q =>
  obtain⟨d,b,f,h⟩:=ok;obtain⟨c,F⟩:=adH G g ⟨d.1,d.2,b.1,b.2⟩ f h;exact fin (k:=.emp) rfl F (akE (anr ⟨d.1,by omega⟩ ⟨b.1,by omega⟩ f h) c F.err (F.dT G g))
 |move e item loc dst q =>
  obtain⟨d,b,f,h,j,m⟩:=ok;obtain⟨c,F⟩:=aiq G g ⟨d.1,d.2,b.1,b.2⟩ f h m;exact fin (k:=.emp) rfl F (akD (anq ⟨d.1,by omega⟩ ⟨b.1,by omega⟩ f h m j) c F.err (F.dT G g))
 |rH e item a =>
  obtain⟨d,b,f⟩:=ok;obtain⟨c,F⟩:=Ps G g ⟨d.1,d.2,b.1,b.2⟩ f;exact fin (k:=.emp) rfl F (akC (anp ⟨d.1,by omega⟩ ⟨b.1,by omega⟩ f) c F.err (F.dT G g))
 |qX e item a =>
  obtain⟨d,b,f⟩:=ok;obtain⟨c,F⟩:=adG G ⟨d.1,d.2,b.1,b.2⟩ (a:=a) ⟨f.1,by omega⟩;exact fin (k:=.emp) rfl F (ain (akP ⟨d.1,by omega⟩ ⟨b.1,by omega⟩ f) c F.err (F.dT G g))
 |land dst a refs =>
  obtain⟨d,b,f⟩:=ok;have n:1<=refs.length/\refs.length<=40/\(∀k∈refs,0<=k/\k<=39)/\Ck 22 [tX dst a refs] KeF:=by
   rcases f with⟨r0,rfl,b0⟩|⟨r0,r1,rfl,b0,b1,z⟩|⟨r0,r1,r2,rfl,b0,b1,b2,p,lt2⟩
   .exact⟨by simp,by simp,fun k l=>by simp at l;subst l;exact b0,aeW d b b0⟩
   .exact⟨by simp,by simp,fun k l=>by simp at l;rcases l with rfl|rfl<;>assumption,aeV d b b0 b1 z⟩
   .exact⟨by simp,by simp,fun k l=>by simp at l;rcases l with rfl|rfl|rfl<;>assumption,aeU d b b0 b1 b2 p lt2⟩
  obtain⟨r1,r2,y,w⟩:=n;obtain⟨c,F⟩:=air G g A r1 r2 y (dst:=dst) ⟨by omega,by omega⟩ (a:=a) ⟨b.1,by omega⟩;exact fin (k:=.emp) rfl F (aim w c F.err (F.dT G g))
 |P7 e item loc dst q a =>
  obtain⟨d,b,f,h,j,m,u⟩:=ok;obtain⟨c,F⟩:=aio G g ⟨d.1,d.2,b.1,b.2⟩ f ⟨h.1,h.2,b.1,b.2⟩ m (a:=a) ⟨u.1,by omega⟩;exact fin (k:=.emp) rfl F (ail (akO ⟨d.1,by omega⟩ ⟨b.1,by omega⟩ f ⟨h.1,by omega⟩ m u j) c F.err (F.dT G g))
 |yF loc q ref =>
  obtain⟨d,b,f⟩:=ok;obtain⟨c,F⟩:=Xv G g d b f;exact fin (k:=.emp) rfl F (aik (akN d b f) c F.err (F.dT G g))
 |close e =>
  have x:Ix S e 0:=⟨ok.1,ok.2,by omega,by omega⟩;have F:=uA G x;exact fin (k:=.emp) rfl F (aij (akM ⟨ok.1,by have:=ok.2;omega⟩) (I1 G s x) F.err (F.dT G g))
 |xR e =>
  have x:Ix S e 0:=⟨ok.1,ok.2,by omega,by omega⟩;have F:=IP G x;exact fin (k:=.emp) rfl F (aii (akL ⟨ok.1,by have:=ok.2;omega⟩) (Sh G x) F.err (F.dT G g))
 |next e =>
  have x:Ix S e 0:=⟨ok.1,ok.2,by omega,by omega⟩;have F:=Pg G x t.2;exact fin (k:=.emp) rfl F (aih (akK ⟨ok.1,by have:=ok.2;omega⟩) (ab1 G x t) F.err (F.dT G g))
def Tk {e loc q a:Int} (h:nD S e item loc q a=(T,0)):¬(S.aB e).closed=true/\¬S.aO.length=40/\∃S1 b up d c,dW S e item loc ⟨q,a,0⟩=(S1,b,up,0)/\cZ S1 e [⟨0,b⟩,⟨6,up⟩,⟨1,-a⟩]=(d,0)/\dR d e item [0,b,0,0,0,0,0,0,0,0,0]=(c,0)/\T=c.xU ⟨e,item,loc,q,a,q,a,0⟩:=by
 unfold nD at h;repeat' split at h
 all_goals first|(exact absurd (congrArg Prod.snd h) (by assumption))|(have f:=congrArg Prod.snd h;simp at f;done)|skip
 all_goals
  simp only[ne_eq,Decidable.not_not]at *
  subst_vars
  cases h;exact⟨‹_›,‹_›,_,_,_,_,_,‹_›,‹_›,‹_›,rfl⟩
def afZ {e loc q a:Int} (h:A4 S e item loc q a=(T,0)):¬(S.aB e).closed=true/\¬S.aF.length=40/\∃S1 xq xv xp b d c,dJ S e item loc 0 q=(S1,⟨xq,xv,xp⟩,b,0)/\cZ S1 e [⟨3,a⟩,⟨4,-a⟩,⟨5,xv⟩,⟨0,-xv⟩]=(d,0)/\dR d e item [0,0,0,0,0,xv,0,0,0,0,0]=(c,0)/\T=c.vL ⟨e,item,loc,q,0,xv,xp,(S.aB e).now,b⟩:=by
 unfold A4 at h;repeat' split at h
 all_goals first|(exact absurd (congrArg Prod.snd h) (by assumption))|(have f:=congrArg Prod.snd h;simp at f;done)|skip
 all_goals
  simp only[ne_eq,Decidable.not_not]at *
  subst_vars
  cases h;exact⟨‹_›,‹_›,_,_,_,_,_,_,_,‹_›,‹_›,‹_›,rfl⟩
def PT {q a c b:Int} {s:kJ} (h:sP S s ref q a c b=(T,0)):∃S1 d up f e,dW S s.aD s.item s.loc ⟨q,c,b⟩=(S1,d,up,0)/\cZ S1 s.aD [⟨4,a⟩,⟨3,-a⟩,⟨0,d⟩,⟨6,up⟩,⟨5,-c⟩]=(f,0)/\dR f s.aD s.item [0,0,0,0,d,0,0,0,0,0,0]=(e,0)/\T=e.qW ref ⟨s.aD,s.item,s.loc,s.eX,q+s.back,s.cost-c,s.bW-b,s.period,s.waits⟩:=by
 unfold sP at h;repeat' split at h
 all_goals first|(exact absurd (congrArg Prod.snd h) (by assumption))|(have g:=congrArg Prod.snd h;simp at g;done)|skip
 all_goals
  simp only[ne_eq,Decidable.not_not]at *
  subst_vars
  cases h;exact⟨_,_,_,_,_,‹_›,‹_›,‹_›,rfl⟩
def aax {q a:Int} {s:kJ} (h:xF S s ref q a=(T,0)):¬((S.aB s.aD).aU (2*s.item+s.loc)).p0<q/\∃S1,cZ (S.aZ s.aD ((S.aB s.aD).bR (2*s.item+s.loc) { (S.aB s.aD).aU (2*s.item+s.loc)with p0:=((S.aB s.aD).aU (2*s.item+s.loc)).p0-q })) s.aD [⟨4,a⟩,⟨3,-a⟩]=(S1,0)/\T=S1.qW ref ⟨s.aD,s.item,s.loc,s.eX,q+s.back,s.cost,s.bW,s.period,s.waits⟩:=by
 unfold xF at h;repeat' split at h
 all_goals first|(exact absurd (congrArg Prod.snd h) (by assumption))|(have b:=congrArg Prod.snd h;simp at b;done)|skip
 all_goals
  simp only[ne_eq,Decidable.not_not]at *
  subst_vars
  cases h;exact⟨‹_›,_,‹_›,rfl⟩
def afE {q a:Int} (h:A0 S ref q a=(T,0)):∃s,S.aF[ref.toNat]?=some s/\¬(S.aB s.aD).closed=true/\¬s.eX-s.back<q/\((s.waits=true/\s.period=(S.aB s.aD).now/\xF S s ref q a=(T,0))\/(¬(s.waits=true/\s.period=(S.aB s.aD).now)/\sP S s ref q a (dK s.cost q (s.eX-s.back)) (dK s.bW q (s.eX-s.back))=(T,0))):=by
 unfold A0 at h;split at h
 .cases h
 rename_i s hs;refine⟨s,hs,?_⟩
 repeat' split at h
 all_goals first|(have b:=congrArg Prod.snd h;simp at b;done)|skip
 .rename_i d b c;exact⟨d,b,.inl ⟨c.1,c.2,h⟩⟩
 .rename_i d b c;exact⟨d,b,.inr ⟨c,h⟩⟩
def ael {e loc q:Int} (h:vJ S e item loc q=(T,0)):¬(S.aB e).closed=true/\∃S1 xq xv xp c b a,dJ S e item loc 1 q=(S1,⟨xq,xv,xp⟩,c,0)/\cZ S1 e [⟨7,xv⟩,⟨0,-xv⟩]=(b,0)/\dR b e item [0,0,0,0,0,0,0,0,xv,0,0]=(a,0)/\T=a:=by
 unfold vJ at h;repeat' split at h
 all_goals first|(exact absurd (congrArg Prod.snd h) (by assumption))|(have d:=congrArg Prod.snd h;simp at d;done)|skip
 all_goals
  simp only[ne_eq,Decidable.not_not]at *
  subst_vars
  cases h;exact⟨‹_›,_,_,_,_,_,_,_,‹_›,‹_›,‹_›,rfl⟩
def aht {e loc dst q:Int} (h:A9 S e item loc dst q=(T,0)):¬(S.aB e).closed=true/\∃S1 xq xv xp f d a up c b,dJ S e item loc 3 q=(S1,⟨xq,xv,xp⟩,f,0)/\dW S1 e item dst ⟨xq,xv,xp⟩=(d,a,up,0)/\cZ d e [⟨0,a-xv⟩,⟨6,up⟩]=(c,0)/\dR c e item [0,0,0,0,0,0,0,0,0,0,a-xv]=(b,0)/\T=b:=by
 unfold A9 at h;repeat' split at h
 all_goals first|(exact absurd (congrArg Prod.snd h) (by assumption))|(have g:=congrArg Prod.snd h;simp at g;done)|skip
 all_goals
  simp only[ne_eq,Decidable.not_not]at *
  subst_vars
  cases h;exact⟨‹_›,_,_,_,_,_,_,_,_,_,_,‹_›,‹_›,‹_›,‹_›,rfl⟩
def inv_inv {q a:Int} (h:Oo S ref q a=(T,0)):∃e item loc rq rv ro ra rb,S.aO[ref.toNat]?=some ⟨e,item,loc,rq,rv,ro,ra,rb⟩/\¬(S.aB e).closed=true/\¬ro<q/\∃S1,cZ S e [⟨1,wT ⟨e,item,loc,rq,rv,ro,ra,rb⟩ q⟩,⟨6,a-wT ⟨e,item,loc,rq,rv,ro,ra,rb⟩ q⟩,⟨2,-a⟩]=(S1,0)/\T=S1.uS ref ⟨e,item,loc,rq,rv,-q+ro,ra-wT ⟨e,item,loc,rq,rv,ro,ra,rb⟩ q,rb⟩:=by
 unfold Oo at h;split at h
 .cases h
 rename_i e item loc rq rv ro ra rb hs;refine⟨_,_,_,_,_,_,_,_,hs,?_⟩
 repeat' split at h
 all_goals first|(exact absurd (congrArg Prod.snd h) (by assumption))|(have b:=congrArg Prod.snd h;simp at b;done)|skip
 simp only[ne_eq,Decidable.not_not]at *
 subst_vars
 cases h;exact⟨‹_›,‹_›,_,‹_›,rfl⟩
def aaH {q e loc acc d:Int} {r:vE} (h:vK S ref q e item loc acc d r=(T,0)):∃S1 xq xv xp c b a,dJ S e item loc 3 q=(S1,⟨xq,xv,xp⟩,c,0)/\cZ S1 e [⟨acc,d⟩,⟨6,xv-d⟩,⟨0,-xv⟩]=(b,0)/\dR b e item [0,0,0,0,0,0,0,xv,0,0,0]=(a,0)/\T=a.uS ref r:=by
 unfold vK at h;repeat' split at h
 all_goals first|(exact absurd (congrArg Prod.snd h) (by assumption))|(have f:=congrArg Prod.snd h;simp at f;done)|skip
 all_goals
  simp only[ne_eq,Decidable.not_not]at *
  subst_vars
  cases h;exact⟨_,_,_,_,_,_,_,‹_›,‹_›,‹_›,rfl⟩
def amX {q:Int} (h:sbS S ref q=(T,0)):∃e item loc rq rv ro ra rb,S.aO[ref.toNat]?=some ⟨e,item,loc,rq,rv,ro,ra,rb⟩/\¬(S.aB e).closed=true/\¬rq-rb<q/\((0<ro/\¬ro<q/\vK S ref q e item loc 1 (wT ⟨e,item,loc,rq,rv,ro,ra,rb⟩ q) ⟨e,item,loc,rq,rv,-q+ro,ra-wT ⟨e,item,loc,rq,rv,ro,ra,rb⟩ q,q+rb⟩=(T,0))\/(¬0<ro/\vK S ref q e item loc 2 (dK rv q rq) ⟨e,item,loc,rq,rv,ro,ra,q+rb⟩=(T,0))):=by
 unfold sbS at h;split at h
 .cases h
 rename_i e item loc rq rv ro ra rb hs;refine⟨_,_,_,_,_,_,_,_,hs,?_⟩
 repeat' split at h
 all_goals first|(have a:=congrArg Prod.snd h;simp at a;done)|skip
 .rename_i c a d b;exact⟨c,a,.inl ⟨b,by omega,h⟩⟩
 .rename_i c a d b;exact⟨c,a,.inr ⟨b,h⟩⟩
def S7 {e loc dst q a:Int} (h:Ei S e item loc dst q a=(T,0)):¬(S.aB e).closed=true/\¬(S.aB dst).closed=true/\¬S.aG.length=40/\∃S1 xq xv xp f d c b,dJ S e item loc 3 q=(S1,⟨xq,xv,xp⟩,f,0)/\cZ S1 e [⟨13,a⟩,⟨15,-a⟩,⟨16,xv⟩,⟨0,-xv⟩]=(d,0)/\cZ d dst [⟨12,a⟩,⟨14,-a⟩]=(c,0)/\dR c e item [0,0,0,0,0,0,xv,0,0,0,0]=(b,0)/\T=b.tP ⟨e,dst,item,q,a,a-xv+xp⟩:=by
 unfold Ei at h;repeat' split at h
 all_goals first|(exact absurd (congrArg Prod.snd h) (by assumption))|(have g:=congrArg Prod.snd h;simp at g;done)|skip
 all_goals
  simp only[ne_eq,Decidable.not_not]at *
  subst_vars
  cases h;exact⟨‹_›,‹_›,‹_›,_,_,_,_,_,_,_,_,‹_›,‹_›,‹_›,‹_›,rfl⟩
def I7 {a e tq tv tp loc q v b:Int} (h:yG S a e item tq tv tp loc q ref v b=(T,0)):∃S1 c up f d,dW S e item loc ⟨q,v,b⟩=(S1,c,up,0)/\cZ S1 e [⟨0,c⟩,⟨6,up⟩,⟨12,-v⟩]=(f,0)/\dR f e item [0,0,0,c,0,0,0,0,0,0,0]=(d,0)/\T=d.zF ref ⟨a,e,item,-q+tq,tv-v,tp-b⟩:=by
 unfold yG at h;repeat' split at h
 all_goals first|(exact absurd (congrArg Prod.snd h) (by assumption))|(have g:=congrArg Prod.snd h;simp at g;done)|skip
 all_goals
  simp only[ne_eq,Decidable.not_not]at *
  subst_vars
  cases h;exact⟨_,_,_,_,_,‹_›,‹_›,‹_›,rfl⟩
def NG {loc q:Int} (h:rU S loc q ref=(T,0)):∃a e item tq tv tp,S.aG[ref.toNat]?=some ⟨a,e,item,tq,tv,tp⟩/\¬(S.aB e).closed=true/\¬tq<q/\yG S a e item tq tv tp loc q ref (dK tv q tq) (dK tp q tq)=(T,0):=by
 unfold rU at h;split at h
 .cases h
 rename_i hs;refine⟨_,_,_,_,_,_,hs,?_⟩
 repeat' split at h
 all_goals first|(have b:=congrArg Prod.snd h;simp at b;done)|skip
 exact⟨‹_›,‹_›,h⟩
def ahz {e loc d:Int} (h:IU S e item loc d=(T,0)):∃S1 xq xv xp c b a,dJ S e item loc 2 d=(S1,⟨xq,xv,xp⟩,c,0)/\cZ S1 e [⟨8,xv⟩,⟨0,-xv⟩]=(b,0)/\dR b e item [0,0,0,0,0,0,0,0,0,xv,0]=(a,0)/\T=a:=by
 unfold IU at h;repeat' split at h
 all_goals first|(exact absurd (congrArg Prod.snd h) (by assumption))|(have f:=congrArg Prod.snd h;simp at f;done)|skip
 all_goals
  simp only[ne_eq,Decidable.not_not]at *
  subst_vars
  cases h;exact⟨_,_,_,_,_,_,_,‹_›,‹_›,‹_›,rfl⟩
def ahZ {e loc d v f:Int} (h:Ce S e item loc d v f=(T,0)):∃S1 a up c b,dW S e item loc ⟨d,v,0⟩=(S1,a,up,0)/\cZ S1 e [⟨0,a⟩,⟨6,up⟩,⟨8,-v⟩]=(c,0)/\dR c e item [0,0,0,0,0,0,0,0,0,-a,0]=(b,0)/\T=b:=by
 unfold Ce at h;repeat' split at h
 all_goals first|(exact absurd (congrArg Prod.snd h) (by assumption))|(have g:=congrArg Prod.snd h;simp at g;done)|skip
 all_goals
  simp only[ne_eq,Decidable.not_not]at *
  subst_vars
  cases h;exact⟨_,_,_,_,_,‹_›,‹_›,‹_›,rfl⟩
def aeX {e loc q:Int} (h:vS S e item loc q=(T,0)):¬(S.aB e).closed=true/\(T=S\/(q-(S.aB e).nY (S.cE e item) (2*item+loc)<0/\IU S e item loc (-q+(S.aB e).nY (S.cE e item) (2*item+loc))=(T,0))\/(0<q-(S.aB e).nY (S.cE e item) (2*item+loc)/\∃v f,Ce S e item loc (q-(S.aB e).nY (S.cE e item) (2*item+loc)) v f=(T,0)/\((S.cE e item=4/\v=xD (q-(S.aB e).nY (S.cE e item) (2*item+loc)) (S.cost e item) 1)\/(S.cE e item≠4/\0<qs ((S.aB e).aU (2*item+loc)).aN/\v=xD (vs ((S.aB e).aU (2*item+loc)).aN) (q-(S.aB e).nY (S.cE e item) (2*item+loc)) (qs ((S.aB e).aU (2*item+loc)).aN))\/(S.cE e item≠4/\v=0)))):=by
 unfold vS at h;repeat' split at h
 .cases h
 .rename_i a d;cases h;exact⟨a,.inl rfl⟩
 .rename_i a d c;exact⟨a,.inr (.inl ⟨c,h⟩)⟩
 .rename_i a d c b;exact⟨a,.inr (.inr ⟨by omega,_,_,h,.inl ⟨b,rfl⟩⟩)⟩
 .rename_i a d c b g;exact⟨a,.inr (.inr ⟨by omega,_,_,h,.inr (.inl ⟨b,g,rfl⟩)⟩)⟩
 .rename_i a d c b g;exact⟨a,.inr (.inr ⟨by omega,_,_,h,.inr (.inr ⟨b,rfl⟩)⟩)⟩
def aex {e a:Int} (h:vM S e item a=(T,0)):¬(S.aB e).closed=true/\T=S.aZ e ((S.aB e).sV item a):=by
 unfold vM at h;split at h
 .cases h
 .cases h;exact⟨‹_›,rfl⟩
def IM {e a:Int} (h:oJ S e item a=(T,0)):¬(S.aB e).closed=true/\¬S.cE e item≠4/\∃d c i b g f,yW ((S.aB e).aU (2*item+0)).aN a=(d,c,0)/\yW (((S.hZ e (2*item+0) d).aB e).aU (2*item+1)).aN a=(i,b,0)/\cZ (((S.hZ e (2*item+0) d).hZ e (2*item+1) i).dH (S.bT.set e.toNat ((S.bT.getD e.toNat []).set item.toNat a))) e [⟨0,c+b⟩,⟨6,-c-b⟩]=(g,0)/\dR g e item [0,0,0,0,0,0,0,0,0,0,c+b]=(f,0)/\T=f:=by
 unfold oJ at h;repeat' split at h
 all_goals first|(exact absurd (congrArg Prod.snd h) (by assumption))|(have j:=congrArg Prod.snd h;simp at j;done)|skip
 all_goals
  simp only[ne_eq,Decidable.not_not]at *
  subst_vars
  cases h;exact⟨‹_›,‹_›,_,_,_,_,_,_,‹_›,‹_›,‹_›,‹_›,rfl⟩
def T5 {dst a:Int} {refs:List Int} (h:qY S dst a refs=(T,0)):¬refs.any (fun k=>decide ((S.aO.length:Int)<=k))=true/\¬refs.any (fun k=>decide ((S.rc k).aD≠(S.rc (refs.headD 0)).aD))=true/\¬(S.aB (S.rc (refs.headD 0)).aD).closed=true/\∃sh S1 all,eG a (refs.map (iT S dst))=(sh,0)/\gM S S refs sh 0=(S1,all,0)/\cZ S1 (S.rc (refs.headD 0)).aD [⟨0,all⟩,⟨9,a-all⟩,⟨2,-a⟩]=(T,0):=by
 unfold qY at h;repeat' split at h
 all_goals first|(exact absurd (congrArg Prod.snd h) (by assumption))|(have b:=congrArg Prod.snd h;simp at b;done)|skip
 simp only[ne_eq,Decidable.not_not]at *
 subst_vars
 cases h;exact⟨‹_›,‹_›,‹_›,_,_,_,‹_›,‹_›,‹_›⟩
def OP {r:vE} {v c:Int} (h:jC S r v=(T,c,0)):(T=S/\c=0)\/(S.cE r.aD r.item≠4/\c=Aa S r v/\∃M,tO ((S.aB r.aD).aU (2*r.item+r.loc)).aN (Aa S r v)=(M,0)/\dR (S.aZ r.aD ((S.aB r.aD).bR (2*r.item+r.loc) { (S.aB r.aD).aU (2*r.item+r.loc)with aN:=M })) r.aD r.item [0,0,Aa S r v,0,0,0,0,0,0,0,0]=(T,0)):=by
 unfold jC at h;split at h
 .cases h;exact .inl ⟨rfl,rfl⟩
 split at h
 .cases h;exact .inl ⟨rfl,rfl⟩
 split at h;split at h
 .rename_i a;exact absurd (congrArg (fun r=>r.2.2) h) a
 rename_i e g _ M f d a;have a:f=0:=by simpa using a
 subst a;refine .inr ⟨e,?_⟩;split at h;rename_i i f b;cases h;exact⟨rfl,_,d,b⟩
def Ir {e:Int} (h:iZ S e=(T,0)):¬(S.aB e).closed=true/\∃S1 a,jE e S.weights.length 0 S=(S1,0)/\oP S1 e=(a,0)/\T=a.aZ e ((a.aB e).shut (S.aB e).toEntC):=by
 unfold iZ at h;repeat' split at h
 all_goals first|(exact absurd (congrArg Prod.snd h) (by assumption))|(have b:=congrArg Prod.snd h;simp at b;done)|skip
 simp only[ne_eq,Decidable.not_not]at *
 subst_vars
 cases h;exact⟨‹_›,_,_,‹_›,‹_›,rfl⟩
def jM {a b q:Int} (h:a<=b) (c:0<=q):a*q<=b*q:=a2k h c
def mS {a b q r:Int} (h:a<=b) (d:0<=q) (c:q<=r) (e:0<=b):a*q<=b*r:=a2g (jM h d) (a11 c e)
structure Un (U W:Int) (y:bP):Prop where
 q:0<=y.q
 v:0<=y.v
 vu:y.v<=U*y.q
 p0:-(W*y.q)<=y.p
 p1:y.p<=W*y.q
def Un.zero:Un U W .zero:=⟨by simp[bP.zero],by simp[bP.zero],by simp[bP.zero],by simp[bP.zero],by simp[bP.zero]⟩
def Un.mono {U W U' c:Int} {y:bP} (h:Un U W y) (e:U<=U') (d:W<=c):Un U' c y:=by
 have a:=jM e h.q;have b:=jM d h.q;have:=h.vu;have:=h.p0;have:=h.p1;exact⟨h.q,h.v,by omega,by omega,by omega⟩
def Un.plus {x y:bP} (h:Un U W x) (g:Un U W y):Un U W (lD x y):=by
 have:=h.vu;have:=h.p0;have:=h.p1;have:=g.vu;have:=g.p0;have:=g.p1;have:=h.q;have:=g.q;have:=h.v;have:=g.v;refine⟨?_,?_,?_,?_,?_⟩<;>simp only[lD,a1e]<;>omega
def acZ {v q n:Int} (e:1<=n) (d:0<=q) (c:q<=n) (f:0<=v) (a:v<=U*n):0<=v*q/n/\v*q/n<=U*q/\0<=v-v*q/n/\v-v*q/n<=U*(n-q):=by
 have b:=uV e d c f;refine⟨b.1,?_,by omega,?_⟩
 .apply a25 (by omega)
  have:=jM a d;rw[a4g]at this;exact this
 .have k:v-U*(n-q)<=v*q/n:=by
   apply a5b (by omega);have h:=jM a (show 0<=n-q by omega)
   have g:(v-U*(n-q))*n=v*q+(v*(n-q)-U*n*(n-q)):=by
    simp only[a28,Int.mul_sub];have e1:U*n*n=U*n*n:=rfl;have e2:U*q*n=U*n*q:=a4g _ _ _;omega
   omega
  omega
def wI {v q n:Int} (c:1<=n) (b:0<=q) (a:q<=n) (f:-(U*n)<=v) (d:v<=U*n) (e:-288230376151711744<=v/\v<=288230376151711744) :
  (-(U*q)<=dK v q n/\dK v q n<=U*q)/\(-(U*(n-q))<=v-dK v q n/\v-dK v q n<=U*(n-q))/\(0<=v->0<=dK v q n/\0<=v-dK v q n):=by
 have h:¬ (n<1\/q<0\/q > n\/mJ v=false):=by rw[fG.2 e];simp;omega
 unfold dK;rw[if_neg h];split
 .have k:=acZ (U:=U) (v:=-v) c b a (by omega) (by omega)
  generalize -v*q/n=t at *;exact⟨⟨by omega,by omega⟩,⟨by omega,by omega⟩,fun h=>by omega⟩
 .have k:=acZ (U:=U) (v:=v) c b a (by omega) d
  generalize v*q/n=t at *;exact⟨⟨by omega,by omega⟩,⟨by omega,by omega⟩,fun h=>by omega⟩
def Un.cut {x:bP} (h:Un U W x) (e:kQ x=true) {q:Int} (d:0<=q) (c:q<=x.q):Un U W (mW x q)/\Un U W (mC x (mW x q)):=by
 have l:=eE.1 e;have a:=wI (v:=x.v) (U:=U) l.1 d c (by have:=h.v;have:=h.vu;omega) h.vu ⟨by omega,by omega⟩;have b:=wI (v:=x.p) (U:=W) l.1 d c h.p0 h.p1 ⟨by omega,by omega⟩;have:=a.2.2 h.v
 exact⟨⟨by simp only[mW];omega,by simp only[mW];omega,by simp only[mW];omega,by simp only[mW];omega,by simp only[mW];omega⟩,
  ⟨by simp only[mC,mW];omega,by simp only[mC,mW];omega,by simp only[mC,mW];omega,by simp only[mC,mW];omega,by simp only[mC,mW];omega⟩⟩
def Un.sum:∀{l:List bP},(∀x∈l,Un U W x)->Un U W ⟨qs l,vs l,ps l⟩
 |[],_=>⟨by simp[qs],by simp[vs],by simp[qs,vs],by simp[qs,ps],by simp[qs,ps]⟩
 |x::l,h=>by
  have:=(h x (by simp)).plus (Un.sum (l:=l) fun y a=>h y (by simp[a]));rw[gE,kD,LC];exact this
def ade {U W:Int}:∀(l:List bP) (a:bP) (q:Int),LR l->(∀x∈l,Un U W x)->Un U W a->(∀x∈(jL l a q).1,Un U W x)/\Un U W (jL l a q).2
 |[],a,q,_,_,c=>⟨fun x d=>by simp[jL]at d,c⟩
 |x::r,a,q,f,h,c=>by
  have d:=h x (by simp);have e:∀y∈r,Un U W y:=fun y b=>h y (by simp[b]);simp only[jL];split
  .exact⟨h,c⟩
  .split
   .obtain⟨i,g⟩:=d.cut (f.ok x (by simp)) (q:=q) (by omega) (by omega)
    refine⟨fun y b=>?_,c.plus i⟩;rcases a0d.1 b with rfl|b
    .exact g
    .exact e y b
   .exact ade r _ _ f.tail e (c.plus d)
def ada {l:List bP} {q:Int} (a:LR l) (h:∀x∈l,Un U W x):(∀x∈(fN l q).1,Un U W x)/\Un U W (fN l q).2.1:=by
 unfold fN;split
 .exact⟨h,.zero⟩
 .split
  .exact⟨h,.zero⟩
  .exact ade l _ q a h .zero
def abK {l m:List bP} {x:bP} (h:∀y∈l,Un U W y) (f:Un U W x) (b:zS l x=(m,0)):∀y∈m,Un U W y:=by
 unfold zS at b;split at b
 .rename_i a
  cases b;obtain⟨k,e,d⟩:∃k e,CT l x=(k,e):=⟨_,_,rfl⟩;rw[d]at a |-;simp only at a |-;subst a;obtain⟨i,-,-,g,-⟩:=ER d;intro y c;rw[a05]at c;rw[c,g.uL.1];subst i;exact Un.sum (RJ h f)
 .rename_i a
  exact absurd (congrArg Prod.snd b) a
def uc (m c U:Int):Int:=if m=4 then c else U
def alr {m c:Int} (h:c<=U):uc m c U<=U:=by unfold uc;split<;>omega
def ahm {c q:Int} (b:0<=c) (a:0<=q):0<=C8 c q/\C8 c q<=c*q:=by
 have e:max q 0=q:=by omega
 have d:=a0q a b;have e2:q*c=c*q:=a1j _ _;unfold C8 xD;rw[e,if_neg (by omega),a4x];split<;>omega
def am7 {c q:Int} (d:0<=c) (b:0<=q):(ofE c q=0/\C8 c q=c*q)\/(ofE c q≠0/\288230376151711744<c*q):=by
 have e:max q 0=q:=by omega
 have e2:q*c=c*q:=a1j _ _;have a:¬(q<0\/c<0\/(1:Int)<1):=by omega
 unfold ofE C8 xD Lo;simp only[e,if_neg a,a4x,e2];by_cases h:c*q > 288230376151711744
 .rw[if_pos h];exact .inr ⟨by simp,h⟩
 .rw[if_neg h,if_neg h];exact .inl ⟨rfl,rfl⟩
def aoz {m c:Int} {l l':List bP} {y:bP} {up:Int} (A:LR l) (h:∀x∈l,Un (uc m c U) W x) (d:Un U W y) (u:0<=c) (t:c<=U) (a:eR m c l y=(l',up,0)) :
  (∀x∈l',Un (uc m c U) W x)/\qs l'=qs l+y.q/\(0<=y.v-up/\y.v-up<=U*y.q)/\(-(U*y.q)<=up/\up<=U*y.q)/\1<=y.q:=by
 have w:=d.v;have z:=d.vu;have n:=d.q;unfold eR at a;split at a
 .rename_i j
  have b:CT l y=(l',0):=Prod.ext (congrArg (fun r=>r.1) a) (congrArg (fun r=>r.2.2) a);have i:up=0:=(congrArg (fun r=>r.2.1) a).symm;obtain⟨s,g,-,-,f⟩:=ER b;have e:uc m c U=U:=if_neg (by omega);rw[e]at h |-;exact⟨by rw[s];exact RJ h d,g,⟨by omega,by omega⟩,⟨by omega,by omega⟩,f⟩
 .split at a
  .rename_i j
   have b:zS l y=(l',0):=Prod.ext (congrArg (fun r=>r.1) a) (congrArg (fun r=>r.2.2) a);have i:up=0:=(congrArg (fun r=>r.2.1) a).symm;obtain⟨-,g,-,f⟩:=wQ b;have e:uc m c U=U:=if_neg (by omega);rw[e]at h |-;exact⟨abK h d b,g,⟨by omega,by omega⟩,⟨by omega,by omega⟩,f⟩
  .split at a
   .rename_i j
    have b:zS l y=(l',0):=Prod.ext (congrArg (fun r=>r.1) a) (congrArg (fun r=>r.2.2) a);have i:up=0:=(congrArg (fun r=>r.2.1) a).symm;obtain⟨-,g,-,f⟩:=wQ b;have e:uc m c U=U:=if_neg (by omega);rw[e]at h |-;exact⟨abK h d b,g,⟨by omega,by omega⟩,⟨by omega,by omega⟩,f⟩
   .split at a
    .rename_i j
     have e:uc m c U=c:=if_pos j;rw[e]at h |-;unfold inC at a;split at a
     .cases a
     .split at a
      .cases a
      .split at a
       .rename_i k
        have b:zS l ⟨y.q,C8 c y.q,y.p⟩=(l',0):=Prod.ext (congrArg (fun r=>r.1) a) k;have i:up=y.v-C8 c y.q:=(congrArg (fun r=>r.2.1) a).symm;obtain⟨-,g,-,f⟩:=wQ b;have o:=ahm u n;have:=jM t n;exact⟨abK (x:=⟨y.q,C8 c y.q,y.p⟩) h ⟨n,o.1,o.2,d.p0,d.p1⟩ b,g,⟨by omega,by omega⟩,⟨by omega,by omega⟩,f⟩
       .rename_i k
        exact absurd (congrArg (fun r=>r.2.2) a) k
    .cases a
def ag4 {m c kind q:Int} {l l':List bP} {d d':uH} {y:bP} {wt:Bool} (hp:jS m l d) (hm:1<=m/\m<=4) (hk:0<=kind/\kind<=3) (h:∀x∈l,Un (uc m c U) W x) (O:0<=c) (c1:c<=U) (a:cX m c l d kind q=(l',d',y,wt,0)) :
  (∀x∈l',Un (uc m c U) W x)/\Un U W y/\qs l'<=qs l/\y.q<=qs l/\(y.q=0\/y.q=q)/\((m=3/\kind≠3/\wt=true/\y=.zero/\d'=d.add kind q/\1<=q)\/(wt=false/\d'=d)):=by
 have n:=hp.lr;have q0:=(fQ n.ok).1;unfold cX at a;split at a
 .cases a
 .split at a
  .cases a
  .split at a
   .rename_i I
    unfold qB at a;split at a
    .cases a
    .split at a
     .cases a
     .cases a
      exact⟨h,.zero,a0h _,by simp[bP.zero];omega,.inl rfl,.inl ⟨I.1,I.2,by simp,rfl,rfl,by omega⟩⟩
   .have e1:l'=(fR m c l d q).1:=(congrArg (fun r=>r.1) a).symm
    have e2:y=(fR m c l d q).2.1:=(congrArg (fun r=>r.2.2.1) a).symm;have g:(fR m c l d q).2.2=0:=congrArg (fun r=>r.2.2.2.2) a;have e4:wt=false:=(congrArg (fun r=>r.2.2.2.1) a).symm;have e5:d'=d:=(congrArg (fun r=>r.2.1) a).symm
    have key:∀{V:Int},(∀x∈l,Un V W x)->∀{r},r=fN l q->r.2.2=0->(∀x∈r.1,Un V W x)/\Un V W r.2.1/\qs r.1=qs l-r.2.1.q/\r.2.1.q=q/\1<=q/\vs r.1=vs l-r.2.1.v:=by
     rintro V hV r rfl B;obtain⟨k,i⟩:=ada (q:=q) n hV;refine⟨k,i,?_⟩
     have w:1<=q/\q<=qs l:=by
      unfold fN at B;split at B
      .cases B
      .split at B
       .cases B
       .rename_i h1 h2
        rw[n.uL.1]at h2;simp only at h2;omega
     obtain⟨s1,s2,s3,-⟩:=tT l .zero q n (by omega) w.2;rw[EA n w.1 w.2];simp only[bP.zero]at s1 s2 s3 |-;exact⟨by omega,by omega,by omega,by omega⟩
    suffices main:(∀x∈l',Un (uc m c U) W x)/\Un U W y/\qs l'<=qs l/\y.q<=qs l/\(y.q=0\/y.q=q)from⟨main.1,main.2.1,main.2.2.1,main.2.2.2.1,main.2.2.2.2,.inr ⟨e4,e5⟩⟩
    clear a e4 e5
    .unfold fR at e1 e2 g
     split at g
     .rename_i M
      have e:uc m c U=U:=if_neg (by omega);rw[e]at h |-;rw[if_pos M]at e1 e2;unfold AO at e1 e2 g;split at g
      .cases g
      .rename_i N
       rw[if_neg N]at e1 e2;split at g
       .cases g
       .rename_i g2
        rw[if_neg g2]at e1 e2;obtain⟨k,i,s,j,K,D⟩:=key h rfl g;have:=i.q;have:=(fQ (nL (q:=q) n).ok).1;subst e1 e2;exact⟨k,i,by omega,by omega,.inr j⟩
     .rename_i M
      rw[if_neg M]at e1 e2;split at g
      .rename_i A
       have e:uc m c U=c:=if_pos A;rw[e]at h |-;rw[if_pos A]at e1 e2;have ac:l.length<=1:=by rcases hp.one with h5|h5<;>omega
       unfold CQ at e1 e2 g;split at g
       .cases g
       .rename_i N
        rw[if_neg N]at e1 e2;have len:=EC (l:=l) (q:=q);have S:=nL (q:=q) n;obtain⟨L,Y,f,hS⟩:∃L Y f,fN l q=(L,Y,f):=⟨_,_,_,rfl⟩;have T:=@key c h _ hS.symm;rw[hS]at e1 e2 g len S;cases L with
        |nil =>
         obtain⟨k,i,s,j,K,D⟩:=T g;have F:=i.mono c1 (a0h W);have:=i.q;subst e1 e2;have e0:qs []=0:=(by simp[qs]);dsimp only at k i F s j this |-;exact⟨k,F,by omega,by omega,.inr j⟩
        |cons z t =>
         dsimp only at e1 e2 g len S;split at g
         .rename_i E;exact absurd g E
         rename_i E;rw[if_neg E]at e1 e2;obtain⟨k,i,s,j,K,D⟩:=T (by simpa using E);dsimp only at k i s j D e1 e2
         have ht:t=[]:=by
          rw[a0v]at len;cases t with
          |nil=>rfl
          |cons _ _=>simp only[a0v]at len;omega
         subst ht;have C:=k z (by simp);have uL:=C.plus i;have H:=i.q;have G:=C.q;have zq:qs l=z.q+Y.q:=by rw[gE]at s;simp[qs]at s |-;omega
         obtain⟨v,u⟩:∃v,v=if ofE c q≠0\/z.v+Y.v<C8 c q then z.v+Y.v else C8 c q:=⟨_,rfl⟩
         have o:=ahm (c:=c) (q:=q) O (by omega)
         have b:0<=v/\v<=c*q/\v<=z.v+Y.v/\z.v+Y.v-v<=c*z.q:=by
          have Z:=uL.vu;have aa:=uL.v;simp only[lD,a1e,j]at Z aa;have hV:=n.v;have ad:vs [z]=z.v:=(by simp[vs]);have:=a0q O G;rcases am7 (c:=c) (q:=q) O (by omega)with⟨J,R⟩|⟨J,R⟩
          .rw[J,R]at u
           by_cases ho:z.v+Y.v<c*q
           .rw[if_pos (.inr ho)]at u;exact⟨by omega,by omega,by omega,by omega⟩
           .rw[if_neg (by simp;omega)]at u;exact⟨by have:=o.1;omega,by omega,by omega,by omega⟩
          .rw[if_pos (.inl J)]at u
           exact⟨by omega,by omega,by omega,by omega⟩
         rw[<-u]at e1 e2;clear u;subst e1 e2;have ab:=jM c1 H;rw[j]at ab;have Q:=i.p0;have P:=i.p1;have ae:qs [(⟨z.q,z.v+(Y.v-v),z.p⟩:bP)]=z.q:=by rw[gE];simp[qs]
         refine⟨fun x X=>?_,⟨H,b.1,by dsimp only;rw[j];omega,Q,P⟩,by omega,by dsimp only;omega,.inr j⟩
         rw[a05]at X;subst X;exact⟨G,by dsimp only;omega,by dsimp only;omega,C.p0,C.p1⟩
      .rename_i A
       have e:uc m c U=U:=if_neg A;rw[e]at h |-;rw[if_neg A]at e1 e2;obtain⟨k,i,s,j,K,D⟩:=key h rfl g;have:=i.q;have:=(fQ (nL (q:=q) n).ok).1;subst e1 e2;exact⟨k,i,by omega,by omega,.inr j⟩
def afI {l:List Int} (h:eB l=0):dP l=l.sum:=by
 unfold eB at h;unfold dP;cases a:dM 0 l with
 |none=>rw[a]at h;simp at h
 |some s=>have:=wG l 0 s a;simp only[a22];omega
def O3 {l:List cU} (h:(cQ l).2=0) {a:Int} (d:0<=a) (h1:a<17):val (cQ l).1 a=val l a:=by
 unfold cQ at h |-;by_cases c:l.any pB=true
 .rw[if_pos c]at h;cases h
 .rw[if_neg c]at h |-
  by_cases hs:(List.range 17).any (fun(a:Nat)=>decide (eB (gT l (a:Int))≠0))=true
  .rw[if_pos hs]at h;cases h
  .rw[if_neg hs]
   have e:eB (gT l a)=0:=by
    have k:∀b∈List.range 17,eB (gT l ((b:Nat):Int))=0:=(by simpa using hs);have:=k a.toNat (by rw[a0t];omega);rwa[a1w d]at this
   exact(aa6 (f:=fun a=>dP (gT l a)) d h1).trans (afI e)
def ahX (l:List Int) (i j:Nat) (v d:Int) (h:i<l.length):(l.set i v).getD j d=if i=j then v else l.getD j d:=by
 rw[a0c,a0o];by_cases e:i=j
 .subst e;simp[h]
 .simp[e]
def NK:∀(m:List cU) (cN next:List Int),(∀x∈m,0<=x.a/\x.a<cN.length)->gK cN m=some next->∀a:Int,0<=a->next.getD a.toNat 0=cN.getD a.toNat 0+val m a
 |[],cN,next,_,h,a,_=>by simp only[gK,a0i]at h;subst h;rw[cJ];omega
 |x::m,cN,next,b,h,a,d=>by
  simp only[gK]at h;split at h
  .have k:=b x (by simp)
   rw[NK m _ next (fun y c=>by rw[a1d];exact b y (by simp[c])) h a d,ahX _ _ _ _ _ (by omega),bY];by_cases e:x.a=a
   .subst e;rw[if_pos rfl,if_pos rfl];omega
   .rw[if_neg (by omega),if_neg e];omega
  .cases h
def EntC.acc (x:EntC) (a:Int):Int:=x.cN.getD a.toNat 0
def zL {S1:bF} {e:Int} {l:List cU} (h:cZ S e l=(S1,0)) (j:(S.aB e).cN.length=17) :
  ∃b:List Int,S1=S.aZ e ((S.aB e).sW b)/\b.length=17/\∀a:Int,0<=a->a<17->b.getD a.toNat 0=(S.aB e).acc a+val l a:=by
 unfold cZ at h;by_cases g:(cQ l).2=0
 .rw[if_neg (by simp[g])]at h
  by_cases f:(nE (S.aB e).cN (cQ l).1).2=0
  .rw[if_neg (by simp[f])]at h
   refine⟨(nE (S.aB e).cN (cQ l).1).1,(congrArg Prod.fst h).symm,by rw[aey,j],fun a a0 n=>?_⟩
   have d:A5 (S.aB e).cN (cQ l).1=0:=by
    unfold nE at f;by_cases d:A5 (S.aB e).cN (cQ l).1=0
    .exact d
    .rw[if_neg d]at f;exact f
   have i:(cQ (cQ l).1).2=0:=by
    unfold A5 at d;split at d
    .cases d
    .rename_i k;exact Classical.byContradiction fun c=>k (.inl c)
   unfold nE;rw[if_pos d];unfold A5 at d;rw[if_neg (by intro c;rw[if_pos c]at d;cases d)]at d;unfold ML;cases m:gK (S.aB e).cN (cQ (cQ l).1).1 with
   |none=>rw[m]at d;cases d
   |some next =>
    simp only[a22];rw[NK _ _ _ (fun x o=>by have:=FP _ x o;rw[j];omega) m a a0,O3 i a0 n,O3 g a0 n];rfl
  .rw[if_pos f]at h
   exact absurd (congrArg Prod.snd h) f
 .rw[if_pos g]at h
  exact absurd (congrArg Prod.snd h) g
def EntC.iv (x:EntC):Int:=(x.bK.map fun p=>vs p.aN).sum
def PU (l:List Int):∀(i:Nat) (v:Int),i<l.length->(l.set i v).sum=l.sum-l.getD i 0+v:=by
 induction l with
 |nil=>intro i v h;simp at h
 |cons x l a =>
  intro i v h;cases i with
  |zero=>simp only[a4f,a0p,List.getD_cons_zero];omega
  |succ i =>
   simp only[a0v]at h;simp only[a43,a0p,List.getD_cons_succ,a i v (by omega)];omega
def abI {x:dE} {k:Int} {p:cY} (h:k.toNat<x.bK.length):(x.bR k p).toEntC.iv=x.toEntC.iv-vs (x.aU k).aN+vs p.aN:=by
 unfold EntC.iv dE.bR;simp only[a09];rw[PU _ _ _ (by simpa using h)]
 have e:(x.bK.map fun p=>vs p.aN).getD k.toNat 0=vs (x.aU k).aN:=by
  unfold dE.aU;rw[a0c,a0c,a0l,a0f h];rfl
 rw[e]
structure Ch (S S1:bF) (e d:Int) (l:List cU):Prop where
 ex:∃x:dE,S1=S.aZ e x/\x.iv=(S.aB e).iv+d/\x.cN.length=17/\(∀a:Int,0<=a->a<17->x.acc a=(S.aB e).acc a+val l a)/\x.down=(S.aB e).down/\x.sh=(S.aB e).sh
def pU (S:bF) (e:Int) (x y:dE):(S.aZ e x).aZ e y=S.aZ e y:=by
 unfold bF.aZ;simp
def Ch.trans {S1 j:bF} {e d d':Int} {l l':List cU} (h:Ch S S1 e d l) (g:Ch S1 j e d' l') (x:Ix S e item):Ch S j e (d+d') (l++l'):=by
 obtain⟨y,rfl,r,q,n,m,k⟩:=h;obtain⟨z,rfl,p,o,f,c,b⟩:=g;rw[bF.eS x]at p f c b;rw[pU];exact⟨z,rfl,by omega,o,fun a a0 i=>by rw[f a a0 i,n a a0 i,PS];omega,c.trans m,b.trans k⟩
def Ch.post {S S1:bF} {e:Int} {l:List cU} (h:cZ S e l=(S1,0)) (a:(S.aB e).cN.length=17):Ch S S1 e 0 l:=by
 obtain⟨b,rfl,d,c⟩:=zL h a;exact⟨_,rfl,by show(S.aB e).iv=_;omega,d,c,rfl,rfl⟩
def Ch.yV {S S1:bF} {e item:Int} {r:List Int} (h:dR S e item r=(S1,0)) (b:(S.aB e).cN.length=17):Ch S S1 e 0 []:=by
 unfold dR at h;split at h
 .cases h
 .cases h
  exact⟨_,rfl,by show(S.aB e).iv=_;omega,b,fun a a0 c=>by rw[cJ,a1i];rfl,rfl,rfl⟩
section
variable {S:bF} {e item:Int}
def Ch.aU (h:StOk S) (x:Ix S e item) {loc:Int} (b:0<=loc) (l1:loc<=1) (p:cY):Ch S (S.aZ e ((S.aB e).bR (2*item+loc) p)) e (vs p.aN-vs ((S.aB e).aU (2*item+loc)).aN) [] :=
 ⟨_,rfl,by rw[abI (h.plt x b l1)];omega,(h.mQ x).bl,fun a a0 c=>by rw[cJ,a1i];rfl,rfl,rfl⟩
def Ch.NB (h:StOk S) (x:Ix S e item) {loc:Int} (g:0<=loc) (l1:loc<=1) {y:bP} {S1:bF} {f up:Int} (a:dW S e item loc y=(S1,f,up,0)):Ch S S1 e f []/\f+up=y.v:=by
 have i:=h.xV x g l1;have l:=h.mb' x;have m:=fun b=>Ch.aU h x g l1 (p:={ (S.aB e).aU (2*item+loc)with aN:=b });unfold dW at a;obtain⟨b,n,d,j⟩:∃b up d,eR (S.cE e item) (S.cost e item) ((S.aB e).aU (2*item+loc)).aN y=(b,up,d):=⟨_,_,_,rfl⟩;have k:=i.in_ l j;simp only[j]at a;split at a
 .rename_i c;exact absurd (congrArg (fun r=>r.2.2.2) a) c
 .rename_i c
  have c:d=0:=by simpa using c
  split at a
  .exact absurd (congrArg (fun r=>r.2.2.2) a) (by simp)
  .split at a
   .exact absurd (congrArg (fun r=>r.2.2.2) a) (by simp)
   .cases a
    have o:=k.2.1 c;refine⟨?_,by omega⟩;have:=m b;rwa[show vs b-vs ((S.aB e).aU (2*item+loc)).aN=y.v-up by omega]at this
def Ch.IW (h:StOk S) (x:Ix S e item) {loc kind q:Int} (g:0<=loc) (l1:loc<=1) (n:0<=kind) (m:kind<=3) {y:bP} {S1:bF} {wt:Bool} (hF:dJ S e item loc kind q=(S1,y,wt,0)):Ch S S1 e (-y.v) []:=by
 have i:=h.xV x g l1;have o:=h.mb' x;have t:=fun p=>Ch.aU h x g l1 (p:=p);unfold dJ at hF;obtain⟨f,d,w,u,l,j⟩:∃f d y wt l,cX (S.cE e item) (S.cost e item) ((S.aB e).aU (2*item+loc)).aN ((S.aB e).aU (2*item+loc)).pn kind q=(f,d,y,wt,l):=⟨_,_,_,_,_,rfl⟩;have k:=i.am1 o ⟨n,m⟩ j;simp only[j]at hF;split at hF
 .rename_i s;exact absurd (congrArg (fun r=>r.2.2.2) hF) s
 .cases hF
  have:=t ⟨f,d.a,d.b,d.c⟩;rwa[show vs f-vs ((S.aB e).aU (2*item+loc)).aN=-y.v by omega]at this
end
end
section
open Mc
variable {sa':List kJ} {S:bF}
def sY (e k:Nat) (now:Int) (x:kJ):Int:=if x.waits=true/\x.aD=(e:Int)/\2*x.item+x.loc=(k:Int)/\x.period=now then x.eX-x.back else 0
def gN (l:List kJ) (e k:Nat) (now:Int):Int:=(l.map (sY e k now)).sum
structure EL (U W Q B:Int) (sa:List kJ) (e:Nat) (ms cs:List Int) (x:EntC):Prop where
 un:∀(k:Nat) (p:cY),x.bK[k]?=some p->(∀y∈p.aN,Un (uc (ms.getD (k/2) 0) (cs.getD (k/2) 0) U) W y)/\qs p.aN<=Q/\p.p0<=gN sa e k x.now/\(x.closed=true->p.p0<=0)
 cN:∀v∈x.cN,-B<=v/\v<=B
 rG:∀r∈x.aJ,∀v∈r,-B<=v/\v<=B
 down:∀v∈x.down,v<=4294967296
def RcL (x:vE):Prop:=x.value<=1000/\x.dL<=1000
def SaL (U W:Int) (x:kJ):Prop:=0<=x.cost/\(x.back<x.eX->x.cost<=U*(x.eX-x.back)/\(-(W*(x.eX-x.back))<=x.bW/\x.bW<=W*(x.eX-x.back)))
def TrL (U W:Int) (x:yX):Prop:=x.eX<=24/\x.value<=U*x.eX/\(-(W*x.eX)<=x.bW/\x.bW<=W*x.eX)
structure Lm (U W Q B:Int) (sa':List kJ) (S:bF):Prop where
 cost:∀r∈S.bT,∀v∈r,v<=1000
 aB:∀(e:Nat) (x:dE),S.aH[e]?=some x->∀y:EntC,(y=x.toEntC\/y∈x.ahead)->EL U W Q B sa' e (S.methods.getD e []) (S.bT.getD e []) y
 rc:∀x∈S.aO,RcL x
 sa:∀x∈S.aF,SaL U W x
 tr:∀x∈S.aG,TrL U W x
def aje {m c U U':Int} (h:U<=U'):uc m c U<=uc m c U':=by unfold uc;split<;>omega
def EL.mono {U W Q B U' d Q' B':Int} {c:List kJ} {e:Nat} {ms cs:List Int} {x:EntC} (h:EL U W Q B c e ms cs x) (j:U<=U') (i:W<=d) (l:Q<=Q') (m:B<=B'):EL U' d Q' B' c e ms cs x :=
 ⟨fun k p b=>⟨fun y f=>((h.un k p b).1 y f).mono (aje j) i,by have:=(h.un k p b).2.1;omega,(h.un k p b).2.2⟩,fun v a=>by have:=h.cN v a;omega,fun r g v a=>by have:=h.rG r g v a;omega,h.down⟩
def SaL.mono {U W U' a:Int} {x:kJ} (h:SaL U W x) (d:U<=U') (c:W<=a):SaL U' a x:=⟨h.1,fun b=>by
 have k:=h.2 b;have:=jM d (show 0<=x.eX-x.back by omega);have:=jM c (show 0<=x.eX-x.back by omega);exact⟨by omega,⟨by omega,by omega⟩⟩⟩
def TrL.mono {U W U' b:Int} {x:yX} (h:TrL U W x) (a:0<=x.eX) (e:U<=U') (d:W<=b):TrL U' b x:=by
 obtain⟨c,k,f⟩:=h;have:=jM e a;have:=jM d a;exact⟨c,by omega,by omega,by omega⟩
def Lm.mono {U W Q B U' d Q' B':Int} {sa':List kJ} {S:bF} (G:Gn S) (h:Lm U W Q B sa' S) (c:U<=U') (b:W<=d) (g:Q<=Q') (i:B<=B'):Lm U' d Q' B' sa' S :=
 ⟨h.cost,fun e x a y f=>(h.aB e x a y f).mono c b g i,h.rc,fun x a=>(h.sa x a).mono c b,fun x a=>(h.tr x a).mono (by have:=(G.L7 x a).2.2.2.1;omega) c b⟩
def Lm.amn {U W Q B Q':Int} (h:Lm U W Q B sa' S) (c:Q<=Q'):Lm U W Q' B sa' S :=
 ⟨h.cost,fun e x b y a=>(h.aB e x b y a).mono (a0h _) (a0h _) c (a0h _),h.rc,h.sa,h.tr⟩
def Lm.EJ {U W Q B B':Int} (h:Lm U W Q B sa' S) (c:B<=B'):Lm U W Q B' sa' S :=
 ⟨h.cost,fun e x b y a=>(h.aB e x b y a).mono (a0h _) (a0h _) (a0h _) c,h.rc,h.sa,h.tr⟩
def Lm.adk {U W Q B U':Int} (h:Lm U W Q B sa' S) (b:U<=U') (d:∀x∈S.aG,0<=x.eX):Lm U' W Q B sa' S :=
 ⟨h.cost,fun e x a y c=>(h.aB e x a y c).mono b (a0h _) (a0h _) (a0h _),h.rc,fun x a=>(h.sa x a).mono b (a0h _),fun x a=>(h.tr x a).mono (d x a) b (a0h _)⟩
def Lm.aaS {U W Q B:Int} {b:List kJ} (h:Lm U W Q B b S) (f:∀(e:Nat) (x:dE),S.aH[e]?=some x->∀y:EntC,(y=x.toEntC\/y∈x.ahead)->∀k,gN b e k y.now<=gN sa' e k y.now):Lm U W Q B sa' S :=
 ⟨h.cost,fun e x d y c=>by
  have E:=h.aB e x d y c;exact⟨fun k p a=>⟨(E.un k p a).1,(E.un k p a).2.1,a2g (E.un k p a).2.2.1 (f e x d y c k),(E.un k p a).2.2.2⟩,E.cN,E.rG,E.down⟩,h.rc,h.sa,h.tr⟩
def akr {l:List Int} {c:Int} (k:Nat) (h:∀v∈l,v<=c) (b:0<=c):l.getD k 0<=c:=by
 by_cases a:k<l.length
 .exact h _ (dA a)
 .rw[a0c,a04 (by omega)];exact b
section
variable {U W Q B:Int} {sa':List kJ} {S:bF} {e item:Int}
def Lm.IX (h:Lm U W Q B sa' S) (e item:Int):S.cost e item<=1000:=by
 unfold bF.cost;refine akr _ (fun v a=>?_) (by omega);by_cases b:e.toNat<S.bT.length
 .exact h.cost _ (dA b) v a
 .rw[a0c,a04 (by omega)]at a;simp at a
def Lm.aZ (h:Lm U W Q B sa' S) {E:dE} (f:0<=e) (c:∀y:EntC,(y=E.toEntC\/y∈E.ahead)->EL U W Q B sa' e.toNat (S.methods.getD e.toNat []) (S.bT.getD e.toNat []) y):Lm U W Q B sa' (S.aZ e E):=by
 refine⟨h.cost,fun k x a y b=>?_,h.rc,h.sa,h.tr⟩;have a:(S.aH.set e.toNat E)[k]?=some x:=a;rw[a0o]at a;split at a
 .rename_i d
  split at a
  .simp only[a0i]at a
   subst a d;exact c y b
  .cases a
 .exact h.aB k x a y b
def Lm.el (h:Lm U W Q B sa' S) (G:StOk S) (x:Ix S e item):EL U W Q B sa' e.toNat (S.methods.getD e.toNat []) (S.bT.getD e.toNat []) (S.aB e).toEntC:=h.aB _ _ (G.at_ x) _ (.inl rfl)
def Lm.elA (h:Lm U W Q B sa' S) (G:StOk S) (x:Ix S e item) {y:EntC} (a:y∈(S.aB e).ahead):EL U W Q B sa' e.toNat (S.methods.getD e.toNat []) (S.bT.getD e.toNat []) y:=h.aB _ _ (G.at_ x) _ (.inr a)
def Lm.aU (h:Lm U W Q B sa' S) (G:StOk S) (x:Ix S e item) {loc:Int} (a:0<=loc) (l1:loc<=1):(∀y∈((S.aB e).aU (2*item+loc)).aN,Un (uc (S.cE e item) (S.cost e item) U) W y)/\qs ((S.aB e).aU (2*item+loc)).aN<=Q/\((S.aB e).aU (2*item+loc)).p0<=gN sa' e.toNat (2*item+loc).toNat (S.aB e).now/\((S.aB e).closed=true->((S.aB e).aU (2*item+loc)).p0<=0):=by
 have k:=(h.el G x).un _ _ (G.pat x a l1);have e1:(2*item+loc).toNat/2=item.toNat:=by have:=x.i0;omega
 rw[e1]at k;exact k
def Lm.bR (h:Lm U W Q B sa' S) (G:StOk S) (x:Ix S e item) {loc:Int} (j:0<=loc) (l1:loc<=1) {p:cY} (g:∀y∈p.aN,Un (uc (S.cE e item) (S.cost e item) U) W y) (f:qs p.aN<=Q) (d:p.p0<=gN sa' e.toNat (2*item+loc).toNat (S.aB e).now) (c:(S.aB e).closed=true->p.p0<=0):Lm U W Q B sa' (S.aZ e ((S.aB e).bR (2*item+loc) p)):=by
 refine h.aZ x.e0 fun y b=>?_;rcases b with rfl|b
 .have E:=h.el G x
  refine⟨fun k q a=>?_,E.cN,E.rG,E.down⟩;have a:((S.aB e).bK.set (2*item+loc).toNat p)[k]?=some q:=a;rw[a0o]at a;split at a
  .rename_i i
   split at a
   .simp only[a0i]at a
    subst a i;have e1:(2*item+loc).toNat/2=item.toNat:=by have:=x.i0;omega
    rw[e1];exact⟨g,f,d,c⟩
   .cases a
  .exact E.un k q a
 .exact h.elA G x b
def Lm.S8 {g:List kJ} (h:Lm U W Q B g S) (G:StOk S) (x:Ix S e item) {loc:Int} (v:0<=loc) (l1:loc<=1) (u:(S.aB e).ahead=[]) {p:cY} (t:∀y∈p.aN,Un (uc (S.cE e item) (S.cost e item) U) W y) (s:qs p.aN<=Q) (r:p.p0<=gN sa' e.toNat (2*item+loc).toNat (S.aB e).now) (o:(S.aB e).closed=true->p.p0<=0)
  (hs:∀(e' k':Nat) (now:Int),¬(e'=e.toNat/\k'=(2*item+loc).toNat)->gN g e' k' now<=gN sa' e' k' now):Lm U W Q B sa' (S.aZ e ((S.aB e).bR (2*item+loc) p)):=by
 refine⟨h.cost,fun k z a y d=>?_,h.rc,h.sa,h.tr⟩;have a:(S.aH.set e.toNat ((S.aB e).bR (2*item+loc) p))[k]?=some z:=a;rw[a0o]at a;split at a
 .rename_i b
  split at a
  .simp only[a0i]at a
   subst a b;rcases d with rfl|d
   .have E:=h.el G x
    refine⟨fun k q a=>?_,E.cN,E.rG,E.down⟩;have a:((S.aB e).bK.set (2*item+loc).toNat p)[k]?=some q:=a;rw[a0o]at a;split at a
    .rename_i b
     split at a
     .simp only[a0i]at a
      subst a b;have e1:(2*item+loc).toNat/2=item.toNat:=by have:=x.i0;omega
      rw[e1];exact⟨t,s,r,o⟩
     .cases a
    .rename_i b
     obtain⟨n,m,l,i⟩:=E.un k q a;exact⟨n,m,a2g l (hs _ _ _ (fun c=>b c.2.symm)),i⟩
   .rw[show((S.aB e).bR (2*item+loc) p).ahead=(S.aB e).ahead from rfl,u]at d;cases d
  .cases a
 .rename_i b
  have E:=h.aB k z a y d;exact⟨fun j q f=>⟨(E.un j q f).1,(E.un j q f).2.1,a2g (E.un j q f).2.2.1 (hs _ _ _ (fun c=>b c.1.symm)),(E.un j q f).2.2.2⟩,E.cN,E.rG,E.down⟩
def Lm.NB (h:Lm U W Q B sa' S) (E:1000<=U) (G:StOk S) (x:Ix S e item) {loc:Int} (d:0<=loc) (l1:loc<=1) {y:bP} (i:Un U W y) {S1:bF} {g up:Int} (a:dW S e item loc y=(S1,g,up,0)) :
  Lm U W (Q+y.q) B sa' S1/\(0<=g/\g<=U*y.q)/\(-(U*y.q)<=up/\up<=U*y.q):=by
 have k:=G.xV x d l1;have v:=G.cb' x;have A:=h.IX e item;obtain⟨p1,p2,n,m⟩:=h.aU G x d l1;have j:=i.q;have w:=fun b u j=>(h.amn (Q':=Q+y.q) (by omega)).bR G x d l1 (p:={ (S.aB e).aU (2*item+loc)with aN:=b }) u j n m;unfold dW at a;obtain⟨b,z,f,l⟩:∃b up f,eR (S.cE e item) (S.cost e item) ((S.aB e).aU (2*item+loc)).aN y=(b,up,f):=⟨_,_,_,rfl⟩;simp only[l]at a;split at a
 .rename_i c;exact absurd (congrArg (fun r=>r.2.2.2) a) c
 .rename_i c
  have c:f=0:=by simpa using c
  subst c;obtain⟨t,D,s,o,C⟩:=aoz k.lr p1 i v.1 (by omega) l;split at a
  .exact absurd (congrArg (fun r=>r.2.2.2) a) (by simp)
  .split at a
   .exact absurd (congrArg (fun r=>r.2.2.2) a) (by simp)
   .cases a
    exact⟨w b t (by show qs b<=_;omega),s,o⟩
def Lm.IW (h:Lm U W Q B sa' S) (F:1000<=U) (G:StOk S) (x:Ix S e item) {loc kind q:Int} (d:0<=loc) (l1:loc<=1) (D:1<=kind) (m:kind<=3) {y:bP} {S1:bF} {wt:Bool} (hF:dJ S e item loc kind q=(S1,y,wt,0)) :
  Lm U W Q B sa' S1/\Un U W y/\y.q<=Q/\(y.q=0\/y.q=q):=by
 have j:=G.xV x d l1;have n:=G.mb' x;have g:=G.cb' x;have z:=h.IX e item;obtain⟨p1,p2,C,l⟩:=h.aU G x d l1;have o:=fun p=>h.bR G x d l1 (p:=p);unfold dJ at hF;obtain⟨f,c,A,w,i,k⟩:∃f c y wt i,cX (S.cE e item) (S.cost e item) ((S.aB e).aU (2*item+loc)).aN ((S.aB e).aU (2*item+loc)).pn kind q=(f,c,y,wt,i):=⟨_,_,_,_,_,rfl⟩;simp only[k]at hF;split at hF
 .rename_i b;exact absurd (congrArg (fun r=>r.2.2.2) hF) b
 .rename_i b
  have b:i=0:=by simpa using b
  subst b;obtain⟨v,u,I,H,t,s⟩:=ag4 j n ⟨by omega,m⟩ p1 g.1 (by omega) k
  cases hF;have E:c.a=((S.aB e).aU (2*item+loc)).p0:=by
   rcases s with⟨_,_,_,_,rfl,_⟩|⟨_,rfl⟩
   .unfold uH.add;rw[if_neg (by omega)];split<;>rfl
   .rfl
  exact⟨o _ v (by show qs f<=Q;omega) (by show c.a<=_;omega) (fun g=>by have:=l g;show c.a<=0;omega),u,by omega,t⟩
def Lm.Mr (h:Lm U W Q B sa' S) (Z:1000<=U) (G:StOk S) (x:Ix S e item) {loc q:Int} (g:0<=loc) (l1:loc<=1) (t:¬(S.aB e).closed=true) (C:(S.aB e).ahead=[]) {y:bP} {S1:bF} {wt:Bool} (hF:dJ S e item loc 0 q=(S1,y,wt,0)) {z:kJ} (u:z.waits=wt/\z.aD=e/\z.item=item/\z.loc=loc/\z.period=(S.aB e).now/\z.eX=q/\z.back=0) (J:0<=q) :
  Lm U W Q B (sa'++[z]) S1/\Un U W y/\y.q<=Q/\(y.q=0\/y.q=q)/\(wt=true->y=.zero):=by
 have l:=G.xV x g l1;have w:=G.mb' x;have A:=G.cb' x;have L:=h.IX e item;obtain⟨p1,p2,X,V⟩:=h.aU G x g l1;obtain⟨s,R,P,O,o,N,M⟩:=u;have D:=fun p=>h.S8 (sa':=sa'++[z]) G x g l1 C (p:=p)
 have r0:∀(b k':Nat) (now:Int),gN (sa'++[z]) b k' now=gN sa' b k' now+(if z.waits=true/\z.aD=(b:Int)/\2*z.item+z.loc=(k':Int)/\z.period=now then z.eX-z.back else 0):=by
  intro b k' now;simp[gN,sY]
 have r1:∀(b k':Nat) (now:Int),gN sa' b k' now<=gN (sa'++[z]) b k' now:=by
  intro b k' now;rw[r0];split<;>omega
 unfold dJ at hF;obtain⟨i,j,T,I,b,m⟩:∃i j y wt b,cX (S.cE e item) (S.cost e item) ((S.aB e).aU (2*item+loc)).aN ((S.aB e).aU (2*item+loc)).pn 0 q=(i,j,y,wt,b):=⟨_,_,_,_,_,rfl⟩;simp only[m]at hF;split at hF
 .rename_i d;exact absurd (congrArg (fun r=>r.2.2.2) hF) d
 .rename_i d
  have d:b=0:=by simpa using d
  subst d;obtain⟨H,F,g3,g4,E,n⟩:=ag4 l w ⟨by omega,by omega⟩ p1 A.1 (by omega) m;cases hF;refine⟨D _ H (by show qs i<=Q;omega) ?_ (fun c=>absurd c t) (fun b k' now _=>r1 b k' now),F,by omega,E,fun f=>?_⟩
  rotate_left
  .rcases n with⟨_,_,_,v,_⟩|⟨k,_⟩
   .exact v
   .rw[k]at f;cases f
  show j.a<=_;have Y:=x.i0;have K:=x.e0;rw[r0];rcases n with⟨_,_,f,_,rfl,_⟩|⟨_,rfl⟩
  .rw[if_pos ⟨s.trans f,by omega,by omega,o⟩]
   unfold uH.add;rw[if_pos rfl];show((S.aB e).aU (2*item+loc)).p0+q<=_;omega
  .show((S.aB e).aU (2*item+loc)).p0<=_
   split<;>omega
def Lm.sW (h:Lm U W Q B sa' S) (G:StOk S) (x:Ix S e item) {b:List Int} (c:∀v∈b,-B<=v/\v<=B):Lm U W Q B sa' (S.aZ e ((S.aB e).sW b)):=by
 refine h.aZ x.e0 fun y a=>?_;rcases a with rfl|a
 .have E:=h.el G x
  exact⟨E.un,c,E.rG,E.down⟩
 .exact h.elA G x a
def acx {A:Int}:∀{l:List cU},(∀y∈l,-A<=y.n/\y.n<=A)->0<=A->∀a:Int,-(A*l.length)<=val l a/\val l a<=A*l.length
 |[],_,_,a=>by simp[cJ]
 |y::l,h,c,a=>by
  have d:=acx (l:=l) (fun z b=>h z (by simp[b])) c a;have:=h y (by simp);rw[bY,a0v,show A*((l.length+1:Nat):Int)=A*l.length+A by rw[a29,a1e];simp];split<;>omega
def Lm.post (h:Lm U W Q B sa' S) (G:StOk S) (x:Ix S e item) {l:List cU} {S1:bF} {A:Int} (j:cZ S e l=(S1,0)) (o:∀y∈l,-A<=y.n/\y.n<=A) (f:0<=A):Lm U W Q (B+A*l.length) sa' S1:=by
 have E:=G.mQ x;obtain⟨b,rfl,t,g⟩:=zL j E.bl;have:=acx o f;have m:=h.el G x;have s:0<=A*(l.length:Int):=a0q f (by omega);refine(h.EJ (B':=B+A*l.length) (by omega)).sW G x fun v a=>?_;obtain⟨i,c⟩:=a1s.1 a;have p:=(a0y.1 c).1;have k:=g (i:Int) (by omega) (by omega);have e1:b.getD i 0=v:=by rw[a0c,c];rfl
 rw[a00,e1]at k;have r:=this (i:Int);have q:=m.cN _ (dA (d:=0) (show i<(S.aB e).cN.length by rw[E.bl];omega));unfold EntC.acc at k;rw[a00]at k;omega
def X5 {A B:Int}:∀(x y s:List Int),rC x y=some s->(∀v∈x,-B<=v/\v<=B)->(∀v∈y,-A<=v/\v<=A)->∀v∈s,-(B+A)<=v/\v<=B+A
 |[],_,s,h,_,_=>by simp[rC]at h;subst h;simp
 |_::_,[],s,h,_,_=>by simp[rC]at h;subst h;simp
 |a::l,b::r,s,h,i,g=>by
  simp only[rC]at h;split at h
  .rename_i d
   cases f:rC l r with
   |none=>rw[f]at h;cases h
   |some t =>
    rw[f]at h;simp only[a0s,a0i]at h;subst h;intro v c;rcases a0d.1 c with rfl|c
    .have:=i a (by simp)
     have:=g b (by simp)
     have e:mY a b=a+b:=by
      unfold mZ at d;unfold mY;split at d
      .rename_i k;rw[if_pos k]
      .cases d
     omega
    .exact X5 l r t f (fun v c=>i v (by simp[c])) (fun v c=>g v (by simp[c])) v c
  .cases h
def Lm.yV (h:Lm U W Q B sa' S) (G:StOk S) (x:Ix S e item) {r:List Int} {S1:bF} {A:Int} (b:dR S e item r=(S1,0)) (g:∀v∈r,-A<=v/\v<=A) (i:0<=A):Lm U W Q (B+A) sa' S1:=by
 unfold dR at b;split at b
 .cases b
 .rename_i s hs
  cases b;have E:=h.el G x;refine(h.EJ (B':=B+A) (by omega)).aZ x.e0 fun y c=>?_
  rcases c with rfl|c
  .refine⟨E.un,fun v a=>by have:=E.cN v a;omega,fun t d v a=>?_,E.down⟩
   rcases a08 d with d|rfl
   .have:=E.rG t d v a;omega
   .refine X5 _ _ _ hs (fun v a=>?_) g v a
    by_cases f:item.toNat<(S.aB e).aJ.length
    .exact E.rG _ (dA f) v a
    .unfold dE.rG at a
     rw[a0c,a04 (by omega)]at a;simp at a
  .exact(h.elA G x c).mono (a0h _) (a0h _) (a0h _) (by omega)
end
end
section
open Mc
variable {k:Int} {S1:bF}
structure yN (U W Q:Int):Prop where
 u0:1000<=U
 u1:U<=524288
 w0:0<=W
 w1:W<=268435456
 q1:Q<=4096
def Un.val {U W Q:Int} {y:bP} (h:Un U W y) (C:yN U W Q) (a:y.q<=4096):y.v<=2147483648/\U*y.q<=2147483648:=by
 have:=mS C.u1 h.q a (by omega);have:=h.vu;omega
section
variable {U W Q B:Int} {sa':List kJ} {S0 S S1:bF} {e item:Int}
def Lm.NA (h:Lm U W Q B sa' S) (C:yN U W Q) (K:Kn S0 S) (x:Ix S0 e item) {loc:Int} (b:0<=loc) (l1:loc<=1) {y:bP} (c:Un U W y) (f:y.q<=24) {a up:Int} (d:dW S e item loc y=(S1,a,up,0)) :
  Kn S0 S1/\Lm U W (Q+24) B sa' S1/\(0<=a/\a<=2147483648)/\(-2147483648<=up/\up<=2147483648):=by
 obtain⟨b1,b2,b3⟩:=h.NB C.u0 K.ok (K.ix x) b l1 c d;have k:=(iS K.ok (K.ix x) b l1 y).1;rw[d]at k;have:=c.val C (by omega);exact⟨K.trans k,b1.amn (by omega),by omega,by omega⟩
def Lm.Nm (h:Lm U W Q B sa' S) (C:yN U W Q) (K:Kn S0 S) (x:Ix S0 e item) {loc kind q:Int} (a:0<=loc) (l1:loc<=1) (c:1<=kind) (b:kind<=3) {y:bP} {wt:Bool} (hF:dJ S e item loc kind q=(S1,y,wt,0)) :
  Kn S0 S1/\Lm U W Q B sa' S1/\Un U W y/\(0<=y.v/\y.v<=2147483648)/\(y.q=0\/y.q=q):=by
 obtain⟨b1,b2,b3,d⟩:=h.IW C.u0 K.ok (K.ix x) a l1 c b hF;have k:=(iF K.ok (K.ix x) a l1 (kind:=kind) (by omega) b q).1;rw[hF]at k;have:=b2.val C (by have:=C.q1;omega);exact⟨K.trans k,b1,b2,⟨b2.v,this.1⟩,d⟩
def Lm.tQ (h:Lm U W Q B sa' S) (K:Kn S0 S) (x:Ix S0 e item) {l:List cU} (a:cZ S e l=(S1,0)) (b:∀y∈l,-8589934592<=y.n/\y.n<=8589934592) (c:l.length<=6):Kn S0 S1/\Lm U W Q (B+51539607552) sa' S1:=by
 have k:=(dG K.ok (K.ix x) l).1;rw[a]at k;exact⟨K.trans k,(h.post K.ok (K.ix x) a b (by omega)).EJ (by omega)⟩
def Lm.yP (h:Lm U W Q B sa' S) (K:Kn S0 S) (x:Ix S0 e item) {r:List Int} (b:r.length=11) (a:dR S e item r=(S1,0)) (c:∀v∈r,-8589934592<=v/\v<=8589934592):Kn S0 S1/\Lm U W Q (B+8589934592) sa' S1:=by
 have k:=(eI K.ok (K.ix x) b).1;rw[a]at k;exact⟨K.trans k,h.yV K.ok (K.ix x) a c (by omega)⟩
def Lm.xU (h:Lm U W Q B sa' S) {r:vE} (a:RcL r):Lm U W Q B sa' (S.xU r):=⟨h.cost,h.aB,RJ h.rc a,h.sa,h.tr⟩
def Lm.vL (h:Lm U W Q B sa' S) {r:kJ} (a:SaL U W r):Lm U W Q B sa' (S.vL r):=⟨h.cost,h.aB,h.rc,RJ h.sa a,h.tr⟩
def Lm.tP (h:Lm U W Q B sa' S) {r:yX} (a:TrL U W r):Lm U W Q B sa' (S.tP r):=⟨h.cost,h.aB,h.rc,h.sa,RJ h.tr a⟩
def Lm.uS (h:Lm U W Q B sa' S) {r:vE} (a:RcL r):Lm U W Q B sa' (S.uS k r):=⟨h.cost,h.aB,abA h.rc a,h.sa,h.tr⟩
def Lm.qW (h:Lm U W Q B sa' S) {r:kJ} (a:SaL U W r):Lm U W Q B sa' (S.qW k r):=⟨h.cost,h.aB,h.rc,abA h.sa a,h.tr⟩
def Lm.zF (h:Lm U W Q B sa' S) {r:yX} (a:TrL U W r):Lm U W Q B sa' (S.zF k r):=⟨h.cost,h.aB,h.rc,h.sa,abA h.tr a⟩
end
def Sz (S:bF):Prop:=∀x∈S.aF,x.waits=true->(S.aB x.aD).closed=false->x.period=(S.aB x.aD).now->x.cost=0/\x.bW=0
structure LS (U W Q B:Int) (S:bF):Prop where
 lm:Lm U W Q B S.aF S
 sz:Sz S
def Kn.pap {S:bF} (k:Kn S S1):S1.aF=S.aF/\S1.aO=S.aO/\S1.aG=S.aG:=by rw[k.eq];exact⟨rfl,rfl,rfl⟩
def Gn.ahb {S:bF} (G:Gn S) {e item:Int} (x:Ix S e item) (h:¬(S.aB e).closed=true):(S.aB e).ahead=[]:=by
 have k:=(G.al _ (a0a (G.toStOk.at_ x))).1;have:(S.aB e).sh.2.1=false:=by simpa[dE.sh]using h
 rw[this]at k;exact a1f.1 k
section
variable {U W Q B:Int} {S T:bF} {e item loc dst q a ref:Int}
abbrev Up (U W Q B:Int) (T:bF):Prop:=LS (U+3000) (W+U+1000) (Q+24) (B+274877906944) T
def Sz.kn (z:Sz S) (K:Kn S S1) (e:T.aH=S1.aH) (hs:T.aF=S.aF):Sz T:=by
 intro y a d c b;have e1:(T.aB y.aD).sh=(S.aB y.aD).sh:=by
  have:T.aB y.aD=S1.aB y.aD:=by unfold bF.aB;rw[e]
  rw[this,K.shE]
 have e2:(T.aB y.aD).closed=(S.aB y.aD).closed:=congrArg (fun r=>r.2.1) e1;have f:(T.aB y.aD).now=(S.aB y.aD).now:=congrArg Prod.fst e1;rw[hs]at a;rw[e2]at c;rw[f]at b;exact z y a d c b
def LS.fin {a Q' B':Int} (g:Gn T) (h:LS U W Q B S) (K:Kn S S1) (c:T.aH=S1.aH) (hs:T.aF=S.aF) (C:yN U W Q) (b:Lm U a Q' B' S.aF T) (d:a<=W+U+1000) (e:Q'<=Q+24) (f:B'<=B+274877906944):Up U W Q B T :=
 ⟨by rw[hs];exact b.mono g (by omega) d e f,h.sz.kn K c hs⟩
def LS.ao8 {U' a Q' B':Int} (i:Gn T) (h:LS U W Q B S) (K:Kn S S1) (c:T.aH=S1.aH) (hs:T.aF=S.aF) (b:Lm U' a Q' B' S.aF T) (e:U'<=U+3000) (d:a<=W+U+1000) (f:Q'<=Q+24) (g:B'<=B+274877906944):Up U W Q B T :=
 ⟨by rw[hs];exact b.mono i e d f g,h.sz.kn K c hs⟩
def aaX (G:Gn S) (C:yN U W Q) (h:LS U W Q B S) (x:Ix S e item) (f:0<=loc) (l1:loc<=1) (c:1<=q/\q<=24) (b:0<=a/\a<=1000) (o:Gn T) (g:nD S e item loc q a=(T,0)):Up U W Q B T:=by
 obtain⟨-,-,S1,s,up,v,u,k,j,i,rfl⟩:=Tk g;have m:=mS C.u0 (show(0:Int)<=1 by omega) c.1 (by have:=C.u0;omega);have r:=a0q C.w0 (show 0<=q by omega);obtain⟨n,b1,t,p⟩:=h.lm.NA C (.refl G.toStOk) x f l1 (y:=⟨q,a,0⟩) ⟨by dsimp only;omega,b.1,by dsimp only;omega,by dsimp only;omega,by dsimp only;omega⟩ c.2 k;obtain⟨l,b2⟩:=b1.tQ n x j (by simp;omega) (by simp);obtain⟨d,b3⟩:=b2.yP l x rfl i (by simp;omega);exact LS.fin o h d rfl d.pap.1 C (b3.xU ⟨b.2,b.2⟩) (by have:=C.u0;omega) (a0h _) (by omega)
def ajy (G:Gn S) (C:yN U W Q) (h:LS U W Q B S) (x:Ix S e item) (n:0<=loc) (l1:loc<=1) (M:1<=q/\q<=24) (N:0<=a/\a<=1000) (J:Gn T) (E:A4 S e item loc q a=(T,0)):Up U W Q B T:=by
 obtain⟨m,-,S1,xq,xv,xp,c,O,j,r,H,F,rfl⟩:=afZ E;obtain⟨b1,u,p,i,o⟩:=h.lm.Mr C.u0 G.toStOk x n l1 m (G.ahb x m) r (z:=⟨e,item,loc,q,0,xv,xp,(S.aB e).now,c⟩) ⟨rfl,rfl,rfl,rfl,rfl,rfl,rfl⟩ (by omega);have s:=(iF G.toStOk x n l1 (kind:=0) (by omega) (by omega) q).1;rw[r]at s;have w:=u.val C (by have:=C.q1;omega);have l:=u.v;have g:=u.vu;have f:=u.p0;have d:=u.p1;dsimp only at w l g f d p i;obtain⟨I,b2⟩:=b1.tQ s x H (by simp;omega) (by simp);obtain⟨k,b3⟩:=b2.yP I x rfl F (by simp;omega)
 have A:SaL U W ⟨e,item,loc,q,0,xv,xp,(S.aB e).now,c⟩:=by
  refine⟨l,fun _=>?_⟩;dsimp only;have L:=a0q (show 0<=U by have:=C.u0;omega) (show 0<=q by omega);have K:=a0q C.w0 (show 0<=q by omega);rw[Int.sub_zero];rcases i with z|z
  .rw[z,Int.mul_zero]at g f d;exact⟨by omega,by omega,by omega⟩
  .rw[z]at g f d;exact⟨g,f,d⟩
 have e1:(j.vL ⟨e,item,loc,q,0,xv,xp,(S.aB e).now,c⟩).aF=S.aF++[⟨e,item,loc,q,0,xv,xp,(S.aB e).now,c⟩]:=by show j.aF++_=_;rw[k.pap.1]
 refine⟨by rw[e1];exact(b3.vL A).mono J (by omega) (by have:=C.u0;omega) (by omega) (by omega),?_⟩;have t:Sz j:=h.sz.kn k rfl k.pap.1;intro y b;rcases a0m.1 b with b|b
 .exact t y b
 .rw[a05]at b
  subst b;intro D _ _;have:=o D;simp only[bP.mk.injEq,bP.zero]at this;exact⟨this.2.1,this.2.2⟩
def af0 (G:Gn S) (C:yN U W Q) (h:LS U W Q B S) (x:Ix S e item) (c:0<=loc) (l1:loc<=1) (l:Gn T) (d:vJ S e item loc q=(T,0)):Up U W Q B T:=by
 obtain⟨-,S1,xq,xv,xp,m,o,n,i,g,f,rfl⟩:=ael d;obtain⟨k,b1,u,b,-⟩:=h.lm.Nm C (.refl G.toStOk) x c l1 (by omega) (by omega) i;dsimp only at b;obtain⟨j,b2⟩:=b1.tQ k x g (by simp;omega) (by simp);obtain⟨a,b3⟩:=b2.yP j x rfl f (by simp;omega);exact LS.fin l h a rfl a.pap.1 C b3 (by have:=C.u0;omega) (by omega) (by omega)
def akd (G:Gn S) (C:yN U W Q) (h:LS U W Q B S) (x:Ix S e item) (c:0<=loc) (l1:loc<=1) (l:Gn T) (d:IU S e item loc q=(T,0)):Up U W Q B T:=by
 obtain⟨S1,xq,xv,xp,m,o,n,i,g,f,rfl⟩:=ahz d;obtain⟨k,b1,u,b,-⟩:=h.lm.Nm C (.refl G.toStOk) x c l1 (by omega) (by omega) i;dsimp only at b;obtain⟨j,b2⟩:=b1.tQ k x g (by simp;omega) (by simp);obtain⟨a,b3⟩:=b2.yP j x rfl f (by simp;omega);exact LS.fin l h a rfl a.pap.1 C b3 (by have:=C.u0;omega) (by omega) (by omega)
def aks {v f:Int} (G:Gn S) (C:yN U W Q) (h:LS U W Q B S) (x:Ix S e item) (g:0<=loc) (l1:loc<=1) (i:q<=24) (a:Un U W ⟨q,v,0⟩) (p:Gn T) (j:Ce S e item loc q v f=(T,0)):Up U W Q B T:=by
 obtain⟨S1,s,up,w,u,m,l,k,rfl⟩:=ahZ j;obtain⟨o,b1,t,r⟩:=h.lm.NA C (.refl G.toStOk) x g l1 a i m;have c:=a.val C (by dsimp only;omega);have d:=a.v;dsimp only at c d;obtain⟨n,b2⟩:=b1.tQ o x l (by simp;omega) (by simp);obtain⟨b,b3⟩:=b2.yP n x rfl k (by simp;omega);exact LS.fin p h b rfl b.pap.1 C b3 (by have:=C.u0;omega) (by omega) (by omega)
def abB {v d n U:Int} (h:1<=n) (a:0<=d) (e:0<=v) (b:v<=U*n) (c:0<=U):0<=xD v d n/\xD v d n<=U*d:=by
 have k:=a0q c a;have g:v*d/n<=U*d:=by
  apply a25 (by omega);have:=jM b a;rw[a4g]at this;exact this
 have f:=a2o (a0q e a) (show 0<=n by omega);unfold xD;split
 .omega
 .split<;>omega
def ait (G:Gn S) (C:yN U W Q) (h:LS U W Q B S) (x:Ix S e item) (a:0<=loc) (l1:loc<=1) (z:0<=q/\q<=24) (j:Gn T) (t:vS S e item loc q=(T,0)):Up U W Q B T:=by
 obtain⟨-,k⟩:=aeX t;rcases k with rfl|⟨-,k⟩|⟨r,v,f,k,l⟩
 .exact LS.fin j h (.refl G.toStOk) rfl rfl C h.lm (by have:=C.u0;omega) (by omega) (by omega)
 .exact akd G C h x a l1 j k
 .have p:=G.toStOk.xV x a l1
  obtain⟨p1,-⟩:=h.lm.aU G.toStOk x a l1;have c:=G.toStOk.cb' x;have y:=h.lm.IX e item;have g:0<=U:=by have:=C.u0;omega
  have D:0<=(S.aB e).nY (S.cE e item) (2*item+loc):=by
   have:=p.sum;have:=p.a0;have:=p.b0;have:=p.c0;have:=(fQ p.lr.ok).1;unfold dE.nY wS;simp only[cY.pn]at *;split<;>omega
  obtain⟨d,m⟩:∃d,d=q-(S.aB e).nY (S.cE e item) (2*item+loc):=⟨_,rfl⟩;rw[<-m]at k r l;have u:=a0q C.w0 (show 0<=d by omega);have w:=a0q g (show 0<=d by omega)
  have b:0<=v/\v<=U*d:=by
   rcases l with⟨i,rfl⟩|⟨i,A,rfl⟩|⟨i,rfl⟩
   .have:=abB (v:=d) (d:=S.cost e item) (n:=1) (U:=d) (by omega) c.1 (by omega) (by omega) (by omega)
    have:=jM (show S.cost e item<=U by have:=C.u0;omega) (show 0<=d by omega);have e1:d*S.cost e item=S.cost e item*d:=a1j _ _;omega
   .have o:uc (S.cE e item) (S.cost e item) U=U:=if_neg i
    rw[o]at p1;have s:=Un.sum p1;exact abB (by omega) (by omega) s.v s.vu g
   .omega
  exact aks G C h x a l1 (by omega) ⟨by dsimp only;omega,b.1,b.2,by dsimp only;omega,by dsimp only;omega⟩ j k
def aj6 (G:Gn S) (C:yN U W Q) (h:LS U W Q B S) (x:Ix S e item) (c:0<=loc) (l1:loc<=1) (l:0<=dst) (k:dst<=1) (w:1<=q/\q<=24) (r:Gn T) (d:A9 S e item loc dst q=(T,0)):Up U W Q B T:=by
 obtain⟨-,S1,xq,xv,xp,s,E,y,up,D,A,j,i,g,f,rfl⟩:=aht d;obtain⟨p,b1,u,b,t⟩:=h.lm.Nm C (.refl G.toStOk) x c l1 (by omega) (by omega) j;obtain⟨o,b2,z,v⟩:=b1.NA C p x l k u (by omega) i;dsimp only at b;obtain⟨n,b3⟩:=b2.tQ o x g (by simp;omega) (by simp);obtain⟨a,m⟩:=b3.yP n x rfl f (by simp;omega);exact LS.fin r h a rfl a.pap.1 C m (by have:=C.u0;omega) (by omega) (by omega)
def aic {r:vE} {q:Int} (h1:1<=q) (b:q<=r.vY) (a:0<=r.dL) (c:r.dL<=1000):0<=wT r q/\wT r q<=r.dL:=R8 h1 b a (by omega)
def ani (G:Gn S) (C:yN U W Q) (h:LS U W Q B S) (t:1<=q) (y:0<=a/\a<=1000) (w:Gn T) (u:Oo S ref q a=(T,0)):Up U W Q B T:=by
 obtain⟨e,item,loc,rq,rv,ro,ra,rb,s,-,z,S1,v,rfl⟩:=inv_inv u;have k:=a0a s;obtain⟨⟨r1,r2⟩,⟨f,c⟩,p,o,n,m,b,g⟩:=G.Eu _ k;obtain⟨j,i⟩:=h.lm.rc _ k;dsimp only at r1 r2 f c p o n m b g j i;have x:Ix S e item:=⟨r1,r2,f,c⟩;have d:=aic (r:=⟨e,item,loc,rq,rv,ro,ra,rb⟩) t (by dsimp only;omega) b.1 i;dsimp only at d;obtain⟨l,b1⟩:=h.lm.tQ (.refl G.toStOk) x v (by simp;omega) (by simp);exact LS.fin w h l rfl l.pap.1 C (b1.uS ⟨j,by dsimp only;omega⟩) (by have:=C.u0;omega) (by omega) (by omega)
def OU {acc d:Int} {r:vE} (G:Gn S) (C:yN U W Q) (h:LS U W Q B S) (x:Ix S e item) (c:0<=loc) (l1:loc<=1) (s:0<=d/\d<=1000) (f:RcL r) (n:Gn T) (g:vK S ref q e item loc acc d r=(T,0)):Up U W Q B T:=by
 obtain⟨S1,xq,xv,xp,o,v,t,k,j,i,rfl⟩:=aaH g;obtain⟨m,b1,u,b,p⟩:=h.lm.Nm C (.refl G.toStOk) x c l1 (by omega) (by omega) k;dsimp only at b;obtain⟨l,b2⟩:=b1.tQ m x j (by simp;omega) (by simp);obtain⟨a,b3⟩:=b2.yP l x rfl i (by simp;omega);exact LS.fin n h a rfl a.pap.1 C (b3.uS f) (by have:=C.u0;omega) (by omega) (by omega)
def aon (G:Gn S) (C:yN U W Q) (h:LS U W Q B S) (w:1<=q) (p:Gn T) (y:sbS S ref q=(T,0)):Up U W Q B T:=by
 obtain⟨e,item,loc,rq,rv,ro,ra,rb,u,-,A,k⟩:=amX y;have o:=a0a u;obtain⟨⟨r1,r2⟩,⟨l,j⟩,⟨c,a⟩,t,b,s,i,m⟩:=G.Eu _ o;obtain⟨g,f⟩:=h.lm.rc _ o;dsimp only at r1 r2 l j c a t b s i m g f;have x:Ix S e item:=⟨r1,r2,l,j⟩;rcases k with⟨z,D,k⟩|⟨z,k⟩
 .have d:=aic (r:=⟨e,item,loc,rq,rv,ro,ra,rb⟩) w (by dsimp only;omega) i.1 f
  dsimp only at d;exact OU G C h x c a (by omega) ⟨g,by dsimp only;omega⟩ p k
 .have d:=FU (v:=rv) (q:=q) (n:=rq) (by omega) (by omega) (by omega) b.1 b.2
  exact OU G C h x c a (by omega) ⟨g,f⟩ p k
def ajw (G:Gn S) (C:yN U W Q) (h:LS U W Q B S) (x:Ix S e item) (j:Ix S dst item) (l:0<=loc) (l1:loc<=1) (i:1<=q/\q<=24) (H:0<=a/\a<=1000) (A:Gn T) (m:Ei S e item loc dst q a=(T,0)):Up U W Q B T:=by
 obtain⟨-,-,-,S1,xq,xv,xp,D,K,J,I,r,p,o,n,rfl⟩:=S7 m;obtain⟨y,b1,u,k,g⟩:=h.lm.Nm C (.refl G.toStOk) x l l1 (by omega) (by omega) r;have d:=u.vu;have c:=u.p0;have b:=u.p1;dsimp only at k g d c b;obtain⟨w,b2⟩:=b1.tQ y x p (by simp;omega) (by simp);obtain⟨v,b3⟩:=b2.tQ w j o (by simp;omega) (by simp);obtain⟨f,t⟩:=b3.yP v x rfl n (by simp;omega);have s:=t.mono (f.gn G) (show U<=U from a0h _) (show W<=W+U+1000 by have:=C.u0;omega) (a0h _) (a0h _);refine LS.fin A h f rfl f.pap.1 C (s.tP ?_) (a0h _) (by omega) (by omega);have m0:=mS C.u0 (show(0:Int)<=1 by omega) i.1 (by have:=C.u0;omega);have F:=a0q (show 0<=U by have:=C.u0;omega) (show 0<=q by omega);have E:=a0q C.w0 (show 0<=q by omega);refine⟨i.2,by dsimp only;omega,?_⟩;dsimp only;rw[a1n,a1n];rcases g with z|z
 .rw[z,Int.mul_zero]at d c b;omega
 .rw[z]at d c b;omega
def acf {a tq tv tp v b:Int} (G:Gn S) (C:yN U W Q) (h:LS U W Q B S) (x:Ix S e item) (i:0<=loc) (l1:loc<=1) (k:q<=24) (c:Un U W ⟨q,v,b⟩) (j:TrL U W ⟨a,e,item,-q+tq,tv-v,tp-b⟩) (s:Gn T) (l:yG S a e item tq tv tp loc q ref v b=(T,0)):Up U W Q B T:=by
 obtain⟨S1,u,up,z,y,o,n,m,rfl⟩:=I7 l;obtain⟨r,b1,w,t⟩:=h.lm.NA C (.refl G.toStOk) x i l1 c k o;have f:=c.val C (by dsimp only;omega);have g:=c.v;dsimp only at f g;obtain⟨p,b2⟩:=b1.tQ r x n (by simp;omega) (by simp);obtain⟨d,b3⟩:=b2.yP p x rfl m (by simp;omega);exact LS.fin s h d rfl d.pap.1 C (b3.zF j) (by have:=C.u0;omega) (by omega) (by omega)
def afj (G:Gn S) (C:yN U W Q) (h:LS U W Q B S) (o:0<=loc) (l1:loc<=1) (s:1<=q/\q<=24) (z:Gn T) (t:rU S loc q ref=(T,0)):Up U W Q B T:=by
 obtain⟨A,e,item,tq,tv,tp,r,-,D,k⟩:=NG t;have j:=a0a r;obtain⟨r0,⟨r1,r2⟩,⟨c,b⟩,m,a,l⟩:=G.L7 _ j;obtain⟨p,g,f,d⟩:=h.lm.tr _ j;dsimp only at r1 r2 c b m a l p g f d;have x:Ix S e item:=⟨r1,r2,c,b⟩;have i:0<=U:=by have:=C.u0;omega
 obtain⟨y,a2,w⟩:=wI (v:=tv) (q:=q) (n:=tq) (U:=U) (by omega) (by omega) (by omega) (by have:=a0q i (show 0<=tq by omega);omega) g ⟨by omega,by omega⟩;obtain⟨b1,b2,-⟩:=wI (v:=tp) (q:=q) (n:=tq) (U:=W) (by omega) (by omega) (by omega) f d ⟨by omega,by omega⟩;have u:=w a.1;have e1:tq-q=-q+tq:=by omega
 rw[e1]at a2 b2;exact acf G C h x o l1 s.2 ⟨by dsimp only;omega,u.1,y.2,b1.1,b1.2⟩ ⟨by dsimp only;omega,a2.2,b2⟩ z k
def agn (G:Gn S) (C:yN U W Q) (h:LS U W Q B S) (x:Ix S e item) (c:0<=a/\a<=1125899906842624) (f:Gn T) (d:vM S e item a=(T,0)):Up U W Q B T:=by
 obtain⟨-,rfl⟩:=aex d;have g:=G.toStOk.mQ x;refine⟨Lm.mono f (Lm.aZ h.lm x.e0 fun y b=>?_) (by omega) (by have:=C.u0;omega) (by omega) (by omega),?_⟩
 .rcases b with rfl|b
  .have E:=Lm.el h.lm G.toStOk x
   exact⟨E.un,E.cN,E.rG,E.down⟩
  .exact Lm.elA h.lm G.toStOk x b
 .refine h.sz.kn (S1:=S.aZ e ((S.aB e).sV item a)) (Tp G.toStOk x c) rfl rfl
end
end
section
open Mc
def Al {l:List kJ} {i:Nat} {z a:kJ} (h:l[i]?=some z) (e k:Nat) (now:Int):gN (l.set i a) e k now=gN l e k now-sY e k now z+sY e k now a:=by
 unfold gN;have b:=(a0y.1 h).1;rw[a09,PU _ _ _ (by simpa using b)];have:(l.map (sY e k now)).getD i 0=sY e k now z:=by rw[a0c,a0l,h];rfl
 rw[this]
section
variable {U W Q B:Int} {S T:bF} {e item loc dst q a ref:Int}
def LS.amx {S1:bF} {d Q' B':Int} {a:kJ} (l:Gn (S1.qW ref a)) (h:LS U W Q B S) (K:Kn S S1) (C:yN U W Q) (b:Lm U d Q' B' (S.aF.set ref.toNat a) S1) (f:SaL U d a) (k:a.waits=true->(S.aB a.aD).closed=false->a.period=(S.aB a.aD).now->a.cost=0/\a.bW=0) (g:d<=W+U+1000) (i:Q'<=Q+24) (j:B'<=B+274877906944):Up U W Q B (S1.qW ref a):=by
 have e1:(S1.qW ref a).aF=S.aF.set ref.toNat a:=by show S1.aF.set _ _=_;rw[K.pap.1]
 refine⟨by rw[e1];exact(b.qW f).mono l (by omega) g i j,?_⟩;have e:Sz S1:=h.sz.kn K rfl K.pap.1;intro y c;rcases a08 c with c|rfl
 .exact e y c
 .show y.waits=true->(S1.aB y.aD).closed=false->y.period=(S1.aB y.aD).now->_
  have e2:(S1.aB y.aD).closed=(S.aB y.aD).closed:=congrArg (fun r=>r.2.1) (K.shE y.aD);rw[e2,K.now];exact k
def ajh (G:Gn S) (C:yN U W Q) (h:LS U W Q B S) (hq:1<=q/\q<=24) (ha:0<=a/\a<=1000) (O:Gn T) (hR:A0 S ref q a=(T,0)):Up U W Q B T:=by
 obtain⟨s,hs,o,hr,k⟩:=afE hR;have r:=a0a hs;obtain⟨⟨s1,s2⟩,⟨s3,s4⟩,⟨f,e⟩,s7,s8,Z,E,aa⟩:=G.C7 _ r;have x:Ix S s.aD s.item:=⟨s1,s2,s3,s4⟩;obtain⟨c0,A⟩:=h.lm.sa _ r;obtain⟨A,K⟩:=A (by omega);have m:=G.ahb x o;have t:(S.aB s.aD).closed=false:=by simpa using o
 rcases k with⟨d,b,k⟩|⟨d,k⟩
 .obtain⟨ab,S1,u,rfl⟩:=aax k
  obtain⟨V,R⟩:=h.sz _ r d t b;have P:=G.toStOk.xV x f e;obtain⟨p1,p2,p3,p4⟩:=h.lm.aU G.toStOk x f e;have P2:jS (S.cE s.aD s.item) ((S.aB s.aD).aU (2*s.item+s.loc)).aN ({ (S.aB s.aD).aU (2*s.item+s.loc)with p0:=((S.aB s.aD).aU (2*s.item+s.loc)).p0-q }:cY).pn:=by
   have:=P.sum;have:=P.a0;simp only[cY.pn]at *;refine⟨P.lr,P.one,by dsimp only;omega,P.b0,P.c0,by dsimp only;omega,?_⟩;rcases P.zero with z|⟨z,-⟩
   .exact .inl z
   .dsimp only at z;omega
  have K0:=gH G.toStOk x f e (p:={ (S.aB s.aD).aU (2*s.item+s.loc)with p0:=((S.aB s.aD).aU (2*s.item+s.loc)).p0-q }) P2
  have b0:=h.lm.S8 (sa':=S.aF.set ref.toNat ⟨s.aD,s.item,s.loc,s.eX,q+s.back,s.cost,s.bW,s.period,s.waits⟩) G.toStOk x f e m (p:={ (S.aB s.aD).aU (2*s.item+s.loc)with p0:=((S.aB s.aD).aU (2*s.item+s.loc)).p0-q }) p1 p2 (by
    rw[Al hs];unfold sY;rw[if_pos ⟨d,by omega,by omega,b⟩,if_pos ⟨d,by dsimp only;omega,by dsimp only;omega,b⟩];dsimp only;omega) (fun c=>absurd c o) (fun w k' now l=>by
    rw[Al hs];unfold sY;rw[if_neg (fun c=>l ⟨by omega,by omega⟩),if_neg (fun c=>l ⟨by have:=c.2.1;dsimp only at this;omega,by have:=c.2.2.1;dsimp only at this;omega⟩)];omega)
  obtain⟨D,b1⟩:=b0.tQ K0 x u (by simp;omega) (by simp);refine LS.amx O h D C b1 ⟨by dsimp only;omega,fun j=>?_⟩ (fun _ _ _=>⟨V,R⟩) (by have:=C.u0;omega) (by omega) (by omega);dsimp only at j |-;have m1:=a0q (show 0<=U by have:=C.u0;omega) (show 0<=s.eX-(q+s.back)by omega);have m2:=a0q C.w0 (show 0<=s.eX-(q+s.back)by omega);omega
 .obtain⟨S1,ca,up,S2,S3,u,h2,h3,rfl⟩:=PT k
  obtain⟨a1,a2,a3⟩:=wI (v:=s.cost) (q:=q) (n:=s.eX-s.back) (U:=U) (by omega) (by omega) (by omega) (by have:=a0q (show 0<=U by have:=C.u0;omega) (show 0<=s.eX-s.back by omega);omega) A Z;obtain⟨b1,b2,-⟩:=wI (v:=s.bW) (q:=q) (n:=s.eX-s.back) (U:=W) (by omega) (by omega) (by omega) K.1 K.2 E
  have N:=a3 c0;have b0:=h.lm.aaS (sa':=S.aF.set ref.toNat ⟨s.aD,s.item,s.loc,s.eX,q+s.back,s.cost-dK s.cost q (s.eX-s.back),s.bW-dK s.bW q (s.eX-s.back),s.period,s.waits⟩) (fun w X H y i k'=>by
   rw[Al hs];unfold sY;have J:¬(s.waits=true/\s.aD=(w:Int)/\s.period=y.now):=by
    rintro⟨g,he,b⟩
    have F:X=S.aB s.aD:=by
     have:=G.toStOk.at_ x;rw[show s.aD.toNat=w by omega,H]at this;exact Option.some.inj this
    subst F;rcases i with rfl|i
    .exact d ⟨g,b⟩
    .rw[m]at i;cases i
   rw[if_neg (fun c=>J ⟨c.1,c.2.1,c.2.2.2⟩),if_neg (fun c=>J ⟨c.1,c.2.1,c.2.2.2⟩)];omega)
  have I:Un U W ⟨q,dK s.cost q (s.eX-s.back),dK s.bW q (s.eX-s.back)⟩:=⟨by dsimp only;omega,N.1,a1.2,b1.1,b1.2⟩;obtain⟨D,M,ac,u1⟩:=b0.NA C (.refl G.toStOk) x f e I hq.2 u;have Y:=I.val C (by dsimp only;omega);dsimp only at Y;obtain⟨K2,L⟩:=M.tQ D x h2 (by simp;omega) (by simp);obtain⟨K3,b3⟩:=L.yP K2 x rfl h3 (by simp;omega);refine LS.amx O h K3 C b3 ⟨N.2,fun j=>?_⟩ (fun g _ b=>absurd ⟨g,b⟩ d) (by have:=C.u0;omega) (by omega) (by omega);dsimp only;rw[show s.eX-(q+s.back)=s.eX-s.back-q by omega];exact⟨a2.2,b2⟩
def acN {L M:List bP} {d:uH} {c a g W:Int} (i:jS 4 L d) (h:∀y∈L,Un c W y) (j:0<=a) (b:yW L a=(M,g,0)):(∀y∈M,Un a W y)/\qs M=qs L/\g=vs M-vs L:=by
 unfold yW at b;have s:=Un.sum h;split at b
 .rename_i f
  have:L=[]:=a1f.1 f;subst this;cases b;exact⟨by simp,rfl,by omega⟩
 .split at b
  .cases b
  .rename_i f l
   cases b;have e1:qs [(⟨qs L,xD (qs L) a 1,ps L⟩:bP)]=qs L:=by rw[gE];simp[qs]
   have e2:vs [(⟨qs L,xD (qs L) a 1,ps L⟩:bP)]=xD (qs L) a 1:=by rw[kD];simp[vs]
   have q0:=(fQ i.lr.ok).1;have k:=abB (v:=qs L) (d:=a) (n:=1) (U:=qs L) (by omega) j q0 (by omega) q0;refine⟨fun y e=>?_,e1,by omega⟩;rw[a05]at e;subst e;exact⟨q0,k.1,by dsimp only;rw[a1j];exact k.2,s.p0,s.p1⟩
def Sz.sh {S1:bF} (z:Sz S) (h:S1.aH.map dE.sh=S.aH.map dE.sh) (hs:S1.aF=S.aF):Sz S1:=by
 intro y a d c b;have e1:(S1.aB y.aD).sh=(S.aB y.aD).sh:=by unfold bF.aB;rw[Ay,Ay,h]
 have e2:(S1.aB y.aD).closed=(S.aB y.aD).closed:=congrArg (fun r=>r.2.1) e1;have e:(S1.aB y.aD).now=(S.aB y.aD).now:=congrArg Prod.fst e1;rw[hs]at a;rw[e2]at c;rw[e]at b;exact z y a d c b
def Ii {α:Type} (l:List α) (i j:Nat) (v d:α) (h:i≠j):(l.set i v).getD j d=l.getD j d:=by
 rw[a0c,a0o,if_neg h,<-a0c]
def Az {α:Type} (l:List α) (i:Nat) (v d:α) (h:i<l.length):(l.set i v).getD i d=v:=by
 rw[a0c,a0o,if_pos rfl,if_pos h];rfl
def aaO (G:Gn S) (C:yN U W Q) (h:LS U W Q B S) (x:Ix S e item) (q:0<=a/\a<=1000) (GT:Gn T) (hR:oJ S e item a=(T,0)):Up U W Q B T:=by
 obtain⟨lS,i,b,d0,f,d1,S4,S5,Z,J,Y,h3,rfl⟩:=IM hR;have i:S.cE e item=4:=by simpa using i
 have R:=G.ahb x lS;have m:=gH G.toStOk x (loc:=0) (by omega) (by omega) (p:={ (S.aB e).aU (2*item+0)with aN:=b }) (by
  have:=(xP (d:=((S.aB e).aU (2*item+0)).pn) (by have:=G.toStOk.xV x (loc:=0) (by omega) (by omega);rwa[i]at this) q.1 Z).1;rw[i];exact this)
 have P0:=G.toStOk.xV x (loc:=0) (by omega) (by omega);have P1:=m.ok.xV (m.ix x) (loc:=1) (by omega) (by omega);rw[i]at P0;have w:(S.aZ e ((S.aB e).bR (2*item+0) { (S.aB e).aU (2*item+0)with aN:=b })).cE e item=4:=i;rw[w]at P1;obtain⟨p1,p2,p3,p4⟩:=h.lm.aU G.toStOk x (loc:=0) (by omega) (by omega);obtain⟨D,q2,q3,q4⟩:=h.lm.aU G.toStOk x (loc:=1) (by omega) (by omega);have hu:uc (S.cE e item) (S.cost e item) U=S.cost e item:=if_pos i;rw[hu]at p1 D;have L:(S.aZ e ((S.aB e).bR (2*item+0) { (S.aB e).aU (2*item+0)with aN:=b })).aB e=(S.aB e).bR (2*item+0) { (S.aB e).aU (2*item+0)with aN:=b }:=bF.eS x _
 have e1:((S.hZ e (2*item+0) b).aB e).aU (2*item+1)=(S.aB e).aU (2*item+1):=by
  show((S.aZ e _).aB e).aU _=_;rw[L];exact dE.CJ (by have:=x.i0;omega)
 rw[e1]at J;have A:jS 4 ((S.aB e).aU (2*item+1)).aN ((S.aB e).aU (2*item+1)).pn:=by
  have:=G.toStOk.xV x (loc:=1) (by omega) (by omega);rwa[i]at this
 have k1:=gH m.ok (m.ix x) (loc:=1) (by omega) (by omega) (p:={ (S.aB e).aU (2*item+1)with aN:=f }) (by
  have:=(xP (d:=((S.aB e).aU (2*item+1)).pn) A q.1 J).1;rw[w];exact this)
 have K:=m.trans k1;obtain⟨r1,r2,r3⟩:=acN (W:=W) P0 p1 q.1 Z;obtain⟨O,t2,t3⟩:=acN (W:=W) A D q.1 J;have s:=K.ok.dH (a:=a) (K.ix x) ⟨by omega,by omega⟩
 have V:((S.hZ e (2*item+0) b).hZ e (2*item+1) f).dH (S.bT.set e.toNat ((S.bT.getD e.toNat []).set item.toNat a))=(S.aZ e (((S.aB e).bR (2*item+0) { (S.aB e).aU (2*item+0)with aN:=b }).bR (2*item+1) { (S.aB e).aU (2*item+1)with aN:=f })).dH (S.bT.set e.toNat ((S.bT.getD e.toNat []).set item.toNat a)):=by
  congr 1;show(S.aZ e _).aZ e (((S.aZ e _).aB e).bR _ { ((S.aZ e _).aB e).aU (2*item+1)with aN:=f })=_;rw[pU,L,dE.CJ (by have:=x.i0;omega)]
 have X:(S.aZ e ((S.aB e).bR (2*item+0) { (S.aB e).aU (2*item+0)with aN:=b })).aZ e (((S.aZ e ((S.aB e).bR (2*item+0) { (S.aB e).aU (2*item+0)with aN:=b })).aB e).bR (2*item+1) { (S.aB e).aU (2*item+1)with aN:=f })=S.aZ e (((S.aB e).bR (2*item+0) { (S.aB e).aU (2*item+0)with aN:=b }).bR (2*item+1) { (S.aB e).aU (2*item+1)with aN:=f }):=by
  rw[pU,L]
 rw[X]at K s;rw[V]at Y;have s:StOk ((S.aZ e (((S.aB e).bR (2*item+0) { (S.aB e).aU (2*item+0)with aN:=b }).bR (2*item+1) { (S.aB e).aU (2*item+1)with aN:=f })).dH (S.bT.set e.toNat ((S.bT.getD e.toNat []).set item.toNat a))):=s;have ac:=x.i0;have ad:=x.e0
 have o:item.toNat<(S.bT.getD e.toNat []).length:=by
  have u:e.toNat<S.bT.length:=by have:=G.toStOk.ET;have:=x.e1;omega
  have:=G.toStOk.lS _ (dA (d:=[]) u);have:=x.i1;omega
 have u:e.toNat<S.bT.length:=by have:=G.toStOk.ET;have:=x.e1;omega
 have b0:Lm U W Q B S.aF ((S.aZ e (((S.aB e).bR (2*item+0) { (S.aB e).aU (2*item+0)with aN:=b }).bR (2*item+1) { (S.aB e).aU (2*item+1)with aN:=f })).dH (S.bT.set e.toNat ((S.bT.getD e.toNat []).set item.toNat a))):=by
  refine⟨fun r F v t=>?_,fun n z g y l=>?_,h.lm.rc,h.lm.sa,h.lm.tr⟩
  .rcases a08 F with F|rfl
   .exact h.lm.cost r F v t
   .rcases a08 t with t|rfl
    .exact h.lm.cost _ (dA u) v t
    .exact q.2
  .show EL U W Q B S.aF n (S.methods.getD n []) ((S.bT.set e.toNat ((S.bT.getD e.toNat []).set item.toNat a)).getD n []) y
   have g:(S.aH.set e.toNat (((S.aB e).bR (2*item+0) { (S.aB e).aU (2*item+0)with aN:=b }).bR (2*item+1) { (S.aB e).aU (2*item+1)with aN:=f }))[n]?=some z:=g;rw[a0o]at g;split at g
   .rename_i H
    split at g
    .simp only[a0i]at g
     subst g H;rw[Az _ _ _ _ u];rcases l with rfl|l
     .have E:=h.lm.el G.toStOk x
      refine⟨fun j p c=>?_,E.cN,E.rG,E.down⟩;have c:(((S.aB e).bK.set (2*item+0).toNat _).set (2*item+1).toNat _)[j]?=some p:=c;have gi:(2*item+0).toNat/2=item.toNat/\(2*item+1).toNat/2=item.toNat:=(by omega);have Nd:(S.methods.getD e.toNat []).getD item.toNat 0=4:=i;rw[a0o]at c;split at c
      .rename_i I
       split at c
       .simp only[a0i]at c
        subst c I;rw[gi.2,Az _ _ _ _ o,Nd];exact⟨O,by show qs f<=Q;omega,q3,q4⟩
       .cases c
      .rw[a0o]at c
       split at c
       .rename_i I
        split at c
        .simp only[a0i]at c
         subst c I;rw[gi.1,Az _ _ _ _ o,Nd];exact⟨r1,by show qs b<=Q;omega,p3,p4⟩
        .cases c
       .rename_i aa ab
        have k:=E.un j p c;rw[Ii _ _ _ _ _ (by omega)];exact k
     .have l:y∈(S.aB e).ahead:=l
      rw[R]at l;cases l
    .cases g
   .rename_i H
    rw[Ii _ _ _ _ _ H];exact h.lm.aB n z g y l
 have N:Ix ((S.aZ e (((S.aB e).bR (2*item+0) { (S.aB e).aU (2*item+0)with aN:=b }).bR (2*item+1) { (S.aB e).aU (2*item+1)with aN:=f })).dH (S.bT.set e.toNat ((S.bT.getD e.toNat []).set item.toNat a))) e item:=by
  have k:=K.ix x;exact⟨k.e0,k.e1,k.i0,k.i1⟩
 have z0:Sz ((S.aZ e (((S.aB e).bR (2*item+0) { (S.aB e).aU (2*item+0)with aN:=b }).bR (2*item+1) { (S.aB e).aU (2*item+1)with aN:=f })).dH (S.bT.set e.toNat ((S.bT.getD e.toNat []).set item.toNat a))):=h.sz.sh K.sh rfl;have P:((S.aZ e (((S.aB e).bR (2*item+0) { (S.aB e).aU (2*item+0)with aN:=b }).bR (2*item+1) { (S.aB e).aU (2*item+1)with aN:=f })).dH (S.bT.set e.toNat ((S.bT.getD e.toNat []).set item.toNat a))).aF=S.aF:=rfl;have g0:=(Un.sum p1).mono (show S.cost e item<=U by have:=h.lm.IX e item;have:=C.u0;omega) (a0h W);have g1:=(Un.sum D).mono (show S.cost e item<=U by have:=h.lm.IX e item;have:=C.u0;omega) (a0h W);have g2:=(Un.sum r1).mono (show a<=U by have:=C.u0;omega) (a0h W);have g3:=(Un.sum O).mono (show a<=U by have:=C.u0;omega) (a0h W);have v0:=(g0.val C (by have:=C.q1;dsimp only;omega)).1;have v1:=(g1.val C (by have:=C.q1;dsimp only;omega)).1;have v2:=(g2.val C (by have:=C.q1;dsimp only;omega)).1;have v3:=(g3.val C (by have:=C.q1;dsimp only;omega)).1;have w0:=g0.v;have w1:=g1.v;have w2:=g2.v;have w3:=g3.v;dsimp only at v0 v1 v2 v3 w0 w1 w2 w3;generalize (S.aZ e (((S.aB e).bR (2*item+0) { (S.aB e).aU (2*item+0)with aN:=b }).bR (2*item+1) { (S.aB e).aU (2*item+1)with aN:=f })).dH (S.bT.set e.toNat ((S.bT.getD e.toNat []).set item.toNat a))=S3 at *;obtain⟨K1,b1⟩:=b0.tQ (.refl s) N Y (by simp;omega) (by simp);obtain⟨M,b2⟩:=b1.yP K1 N rfl h3 (by simp;omega);have es:T.aF=S.aF:=M.pap.1.trans P;exact⟨by rw[es];exact b2.mono GT (by omega) (by have:=C.u0;omega) (by omega) (by omega),z0.kn M rfl M.pap.1⟩
def MF {v all U W:Int} (e:0<=v/\v<=288230376151711744) (g:1<=all):∀(l:List bP) (left:Int),(∀x∈l,Un U W x/\1<=x.q)->qs l<=all->left<=v->∀z∈fJ v all left l,1<=z.q/\z.v<=(U+v)*z.q/\-(W*z.q)<=z.p/\z.p<=W*z.q
 |[],_,_,_,_,z,a=>by cases a
 |[y],left,h,_,j,z,a=>by
  obtain⟨u,c⟩:=h y (by simp);simp only[fJ,a05]at a;subst a;have m:=mS (a0h v) (show(0:Int)<=1 by omega) c e.1;have:=u.vu;exact⟨c,by dsimp only;rw[a1n];omega,u.p0,u.p1⟩
 |y::w::r,left,h,i,j,z,a=>by
  obtain⟨u,c⟩:=h y (by simp);have f:∀x∈w::r,Un U W x/\1<=x.q:=fun x d=>h x (by simp only[a0d]at d |-;exact .inr d);rw[gE]at i;have k:0<=qs (w::r):=(Un.sum (fun x d=>(f x d).1)).q;have b:=(Ap (v:=v) (q:=y.q) (n:=all) g (by omega) (by omega) (fG.2 ⟨by omega,by omega⟩)).1 e.1;simp only[fJ,a0d]at a;rcases a with rfl|a
  .have m:=mS (a0h v) (show(0:Int)<=1 by omega) c e.1
   have:=u.vu;exact⟨c,by dsimp only;rw[a1n];omega,u.p0,u.p1⟩
  .exact MF e g (w::r) (left-dK v y.q all) f (by omega) (by omega) z (by simpa using a)
def afW {S0:bF} {r:vE} {v c:Int} (H:Gn S0) (C:yN U W Q) (K:Kn S0 S) (h:Lm U W Q B S0.aF S) (x:Ix S0 r.aD r.item) (b:0<=r.loc/\r.loc<=1) (w:1<=r.eX) (J:0<=r.back/\r.back<=r.eX) (t:0<=v/\v<=1000) (z:jC S r v=(T,c,0)) :
  Kn S0 T/\Lm (U+1000) W Q (B+8589934592) S0.aF T/\0<=c/\c<=v:=by
 have e:∀x∈S.aG,0<=x.eX:=fun x g=>by rw[K.pap.2.2]at g;exact(H.L7 x g).2.2.2.1.1
 rcases OP z with⟨rfl,rfl⟩|⟨j,rfl,M,a,A⟩
 .exact⟨K,(h.adk (by omega) e).EJ (by omega),by omega,by omega⟩
 .have P:=K.ok.xV (K.ix x) b.1 b.2
  obtain⟨p1,p2,o,n⟩:=h.aU K.ok (K.ix x) b.1 b.2;have q0:=(fQ P.lr.ok).1
  have f:0<=Aa S r v/\Aa S r v<=v:=by
   unfold Aa;exact FU w (by omega) (by omega) t.1 (by omega)
  have k:=FN P (Aa S r v);rw[a]at k;have G:=gH K.ok (K.ix x) b.1 b.2 (p:={ (S.aB r.aD).aU (2*r.item+r.loc)with aN:=M }) k.1;have m:uc (S.cE r.aD r.item) (S.cost r.aD r.item) U=U:=if_neg j;have l:uc (S.cE r.aD r.item) (S.cost r.aD r.item) (U+1000)=U+1000:=if_neg j
  rw[m]at p1;have key:(∀y∈M,Un (U+1000) W y)/\qs M=qs ((S.aB r.aD).aU (2*r.item+r.loc)).aN:=by
   unfold tO at a;split at a
   .cases a
   rename_i I;split at a
   .cases a
   split at a
   .rename_i u
    cases a;have s:=LR.of u;refine⟨fun y d=>?_,CI _ _ _ _⟩
    have i:1<=qs ((S.aB r.aD).aU (2*r.item+r.loc)).aN:=by
     have:=(fQ P.lr.ok).2.2;omega
    obtain⟨N,L,E,D⟩:=MF (v:=Aa S r v) (U:=U) (W:=W) ⟨f.1,by omega⟩ i _ _ (fun y d=>⟨p1 y d,(P.lr.at_ d).1⟩) (a0h _) (a0h _) y d;have:=jM (show U+Aa S r v<=U+1000 by omega) (show 0<=y.q by omega);exact⟨by omega,(s.at_ d).2.2.1,by omega,E,D⟩
   .cases a
  have b0:=(h.adk (U':=U+1000) (by omega) e).bR K.ok (K.ix x) b.1 b.2 (p:={ (S.aB r.aD).aU (2*r.item+r.loc)with aN:=M }) (by rw[l];exact key.1) (by show qs M<=Q;omega) o n;obtain⟨F,b2⟩:=b0.yP (K.trans G) x rfl A (by simp;omega);exact⟨F,b2,f.1,f.2⟩
end
end
end Go.Proofs.YtnepgggkgnckcaaGreat
