/-
 Texts joined and made small by wip/small.sh.
-/
import Derived.Test.YtnepgggkgnckcaaGreatJ6
set_option linter.unusedVariables false
set_option linter.unusedSimpArgs false
namespace Go.Proofs.YtnepgggkgnckcaaGreat
open Go.RowKit
section
open Mc
theorem FJ {b:List Int} {k:Nat} {v:Int} (hk:k<b.length) (h:b.getD k 0=v):b[k]?=some v:=by
 rw[List.getD,List.getElem?_eq_getElem hk]at h;rw[List.getElem?_eq_getElem hk,←h];rfl
theorem SV {k:FuncId} {xs:List AV} (h:CK Tryz.prog k xs Kcm) (w:World) (vs:Array Value) (hl:vs.size=xs.length) (hv:∀(i:Nat) (x:AV),xs[i]?=some x→@cO dI dN (fun _=>False) w x (vs.getD i Go.undef)):Calls Tryz.prog k vs w fun e w'=>e=.returned (.bool true)∧Below w.heap.size w w':=by
 refine(h.ok (fun _=>False) w vs (fun _ h=>h.elim) (fun t h=>absurd h List.not_mem_nil) hl hv).mono ?_
 rintro e w' ⟨v,rfl,h1,h2⟩
 cases h1;exact⟨rfl,h2⟩
theorem Rj {w:World} {a:Option Addr} {n cap:Nat} {z:List Int} (h:Row w 1 a n cap z):@cO dI dN (fun _=>False) w (.lit 1 (aA z)) (.slice a n cap):=by
 obtain⟨h1,h2,h3,h4,h5⟩:=h;have e:n=z.length:=by omega
 subst e;rw[Lo];have hl:(z.map fun v=>[v]).length=z.length:=by simp
 rw[←hl]at h2 ⊢;refine uT (by intro r hr;obtain⟨x,-,rfl⟩:=List.mem_map.1 hr;rfl) h2 h3 ?_
 rw[hl,FX];rcases h5 with h5|⟨b,off,h5,h6,h7⟩
 ·exact .inl h5
 ·exact .inr ⟨b,off,h5,fun h=>h,h6,fun i hi=>h7 i (by omega)⟩
set_option maxRecDepth 1000000
namespace SI
abbrev siF (l i:AV):List AV:=fr 26 [(0,l),(1,l),(5,i)]
noncomputable def body:Code:=(Tryz.f29).body.getD .skip
abbrev aiI (c:Code) (r:Option (RT Out)):Prop:=CG { vars:=Ka1,lens:=Kcw } c ([.q 1 0,.q 1 0]++List.replicate 24 .undef) [] [] (siF (.q 1 0) (.i 0)) [] r
noncomputable def Rb:Option (RT Out):=Tz { vars:=Ka1,lens:=Kcw } body ([.q 1 0,.q 1 0]++List.replicate 24 .undef:List AV).length ([.q 1 0,.q 1 0]++List.replicate 24 .undef) [] 0
theorem alj:aiI body Rb:=⟨rfl,by decide +kernel,by decide +kernel⟩
abbrev aiH (c:Code):Prop:=gN { vars:=[(0,4611686018427387904),(0,4611686018427387904),Me],facts:=[(Kcf,1,4611686018427387904)],lens:=Kcw,hH:=[(0,[([1],1)],[.v 2])] } c (siF (.q 1 0) (.v 1)) [] 0 [] (siF (.q 1 0) KbH) []
theorem ali:aiH (bE Rb):=⟨_,rfl,by decide +kernel,by decide +kernel⟩
abbrev aiG (c:Code):Prop:=gN { vars:=Ka1,lens:=Kcw } c (siF (.q 1 0) (.v 0)) [] 2 [] (siF (.q 1 0) (.v 0)) []
theorem alh:aiG (bE Rb):=⟨_,rfl,by decide +kernel,by decide +kernel⟩
abbrev aei (o:Option (RT Out)):Prop:=mI { vars:=Ka1,lens:=Kcw } Tryz.f29 o 0 (siF (.q 1 0) (.v 0)) [] (Kcm)
theorem ajv:aei Rb:=⟨_,rfl,by decide +kernel,by decide +kernel,by kernel_rfl⟩
theorem walk (oA:Option (RT Out)) (rA:aiI body oA) (rR:aiH (bE oA)) (rX:aiG (bE oA)) (rr:aei oA) {l:List Int} (hl:l.length≤4611686018427387904) (hI:eH l) :
  Ck 29 [.lit 1 (aA l),.lit 1 (aA l)] Kcm:=by
 refine CK.gY Tryz.func29 (c:=body) (by kernel_rfl) (Fh.out) (yC.out) fun A w0 a0=>?_
 intro mm w a pr;rw[Tryz.ntmps29]at pr;refine rA.go (ev1 _ [(l.length:Int)] [] [aA l] .nil) (xK kn) pr (fd:=siF (.lit 1 (aA l)) (.i 0)) (bd:=[]) ?_
 intro mm w a pr;refine fQ (fun n a w=>∃j:Nat,n=l.length-j∧j≤l.length∧∃mm,@gZ dI dN A w0 a0 mm w a (siF (.lit 1 (aA l)) (.i (j:Int))) (eS [])) ?_ (n:=l.length) ⟨0,rfl,Nat.zero_le _,_,pr⟩
 rintro n a w ⟨j,rfl,hj,mm,pr⟩
 rcases(by omega:j=l.length∨j<l.length)with rfl|hlt
 ·refine rX.go (ev1 _ [(l.length:Int)] [] [aA l] .nil) (xK kn) pr ?_
  intro mm w a pr;exact rr.go (ev1 _ [(l.length:Int)] [] [aA l] .nil) (xK kn) pr
 ·obtain⟨k,hk0⟩:∃k,l[j]?=some k:=⟨_,List.getElem?_eq_getElem hlt⟩
  have hk:l[(j:Int).toNat]?=some k:=by simpa using hk0
  have hki:=hI k (List.mem_of_getElem? hk0)
  have:=hki.lo;have:=hki.hi
  refine rR.go (ev1 _ [(l.length:Int),(j:Int),k] [] [aA l] (.d (aI hk) .nil)) (xK kn) pr (fd:=siF (.lit 1 (aA l)) (.i (1+(j:Int)))) (bd:=[]) ?_
  intro mm w a pr;rw[show(1+(j:Int))=((j+1:Nat):Int)by omega]at pr
  exact⟨_,by omega,j+1,rfl,by omega,mm,pr⟩
end SI
theorem SR {l:List Int} (hI:eH l) (hl:l.length≤4611686018427387904):Ck 29 [.lit 1 (aA l),.lit 1 (aA l)] Kcm :=
 SI.walk SI.Rb SI.alj SI.ali SI.alh SI.ajv hl hI
theorem EX:Ck 23 [] Kcm:=by
 refine⟨(fun x h=>nomatch h),.c _,?_⟩
 intro A w vs hA hG hl hv;obtain rfl:vs=#[]:=Array.eq_empty_of_size_eq_zero hl
 refine(afj w).mono ?_
 rintro e w' ⟨rfl,h⟩
 exact⟨_,rfl,@cO.c dI dN _ _ _,h⟩
theorem ak4 {S:bL} (G:Gn S) (hw:∀v∈S.weights,0≤v∧v≤1073741824) {basis:Int} {refs:List Int}:eH (refs.map (cJ S basis)):=by
 intro x hx;obtain⟨k,-,rfl⟩:=List.mem_map.1 hx;have z:jY 0:=⟨by omega,by omega⟩
 unfold cJ;split
 ·exact z
 ·split
  ·exact z
  ·rename_i g hg
   obtain⟨-,b2,-,b4,b5,-⟩:=G.FM g (List.mem_of_getElem? hg)
   split
   ·exact⟨by omega,by omega⟩
   ·split
    ·exact⟨by omega,by omega⟩
    ·split
     ·have h1:0≤S.weights.getD g.item.toNat 0∧S.weights.getD g.item.toNat 0≤1073741824:=hw _ (List.mem_of_getElem? (getD_some (by omega)))
      have h2:=Int.mul_le_mul b4.2 h1.2 h1.1 (by omega)
      have h3:=Int.mul_nonneg (show 0≤g.eT by omega) h1.1
      exact⟨by omega,by omega⟩
     ·exact z
theorem Eu {v basis:Int} {l refs:List Int} (hb:jY basis) (hI:eH refs) (hl:l.length≤9223372036854775807) (hr:refs.length≤9223372036854775807) :
  Ck 8 [.i v,.lit 1 (aA l),.lit 1 (aA refs),.i basis] Kcm:=by
 obtain⟨m,per,ws,ms,cs,M,cM⟩:=ac0 v;obtain⟨k,T,hk,-,R,cS⟩:=af3 M l hl;have G:=R.gn;have hw:∀v∈T.weights,0≤v∧v≤1073741824:=by rw[R.wt];exact M.wr
 have cS':=cS;have:=hb.lo;have:=hb.hi
 by_cases h60:refs.length≤60
 ·have cW:∀b,jY b→_:=fun b hb=>Er G hw (refs:=refs) (basis:=b) h60 hI hb
  have cD:∀b,jY b→_:=fun b hb=>yT G hw (refs:=refs) (basis:=b) h60 hI hb
  have cZ:∀b,Ck 29 [.lit 1 (aA (refs.map (cJ T b))),.lit 1 (aA (refs.map (cJ T b)))] Kcm:=fun b=>SR (ak4 G hw) (by simp;omega)
  exact cw _ (ev1 { vars:=[(0,60)],lens:=[(8,[([0],1)])],bN:=[Wc,YQ,(27,Bf,(.q 1 12)),(28,Bf,(.q 1 12)),(27,Bg,(.q 1 13)),(28,Bg,(.q 1 13)),(29,[.q 1 13,.q 1 13],Kcm),(27,Bh,(.q 1 14)),(28,Bh,(.q 1 14)),(29,[.q 1 14,.q 1 14],Kcm),(27,Bi,(.q 1 15)),(28,Bi,(.q 1 15)),(29,[.q 1 15,.q 1 15],Kcm),(29,[.q 1 12,.q 1 12],Kcm),(23,[],Kcm)] } [(refs.length:Int)] [.I T.aB,.I T.aD,.I T.done,.I v,.I basis,.I m,.I per] (sT T [aA l,aA refs,aA ws,aO ms,aO cs,aA (refs.map (cJ T (basis))),aA (refs.map (cJ T (0))),aA (refs.map (cJ T (1))),aA (refs.map (cJ T (2)))]) .nil) [.o 3,.q 1 7,.q 1 8,.o 4] Kcm (kc cM (kc cS (kc (cW (basis) hb) (kc (cD (basis) hb) (kc (cW (0) ⟨by omega,by omega⟩) (kc (cD (0) ⟨by omega,by omega⟩) (kc (cZ (0)) (kc (cW (1) ⟨by omega,by omega⟩) (kc (cD (1) ⟨by omega,by omega⟩) (kc (cZ (1)) (kc (cW (2) ⟨by omega,by omega⟩) (kc (cD (2) ⟨by omega,by omega⟩) (kc (cZ (2)) (kc (cZ (basis)) (kc EX kn)))))))))))))))
 ·exact cw _ (ev1 { vars:=[(61,9223372036854775807)],lens:=[(8,[([0],1)])],bN:=[Wc,YQ,(23,[],Kcm)] } [(refs.length:Int)] [.I T.aB,.I T.aD,.I T.done,.I v,.I basis,.I m,.I per] (sT T [aA l,aA refs,aA ws,aO ms,aO cs]) .nil) [.o 3,.q 1 7,.q 1 8,.o 4] Kcm (kc cM (kc cS (kc EX kn)))
theorem zX (v:Int) (a1:Option Addr) (len1 cap1:Nat) (z1:List Int) (a2:Option Addr) (len2 cap2:Nat) (z2:List Int) (basis:Int) (w:World) (w0:jY v) (w1:Row w 1 a1 len1 cap1 z1) (w2:Row w 1 a2 len2 cap2 z2) (w3:jY basis) :
  Calls Tryz.prog 8 #[.int .i64 v,.slice a1 len1 cap1,.slice a2 len2 cap2,.int .i64 basis] w fun e w'=>e=.returned (.bool true)∧Below w.heap.size w w':=by
 have e1:=w1.len;have e2:=w1.le;have e3:=w1.max
 have e4:=w2.len;have e5:=w2.le;have e6:=w2.max
 simp only[maxLen]at e3 e6;refine SV (Eu (v:=v) w3 w2.all (l:=z1) (refs:=z2) (by omega) (by omega)) w _ rfl ?_
 intro i x hx;rcases(by omega:i=0∨i=1∨i=2∨i=3∨4≤i)with rfl|rfl|rfl|rfl|hi
 ·cases hx;exact @cO.c dI dN _ _ _
 ·cases hx;exact Rj w1
 ·cases hx;exact Rj w2
 ·cases hx;exact @cO.c dI dN _ _ _
 ·rw[List.getElem?_eq_none hi]at hx;cases hx
end
end Go.Proofs.YtnepgggkgnckcaaGreat
