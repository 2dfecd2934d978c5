/-
 What operations answer, in plain data; what they keep. No program in sight.
-/
import Derived.Test.YtjccjmmbebiegaaGop0
set_option linter.unusedVariables false
set_option linter.unusedSimpArgs false
namespace Go.Proofs.Ytjccjmmbebiegaa
open Go.RowKit Mc
def RcOk (n w:Nat) (x:RcD):Prop:=(0≤x.entity∧x.entity<n)∧(0≤x.item∧x.item<w)∧(0≤x.loc∧x.loc≤1)∧(1≤x.qty∧x.qty≤1073741824)∧(0≤x.value∧x.value≤1125899906842624)∧(0≤x.opn∧x.opn≤x.qty)∧(0≤x.accrued∧x.accrued≤1125899906842624)∧(0≤x.back∧x.back≤x.qty)
def SaOk (n w:Nat) (x:SaD):Prop:=(0≤x.entity∧x.entity<n)∧(0≤x.item∧x.item<w)∧(0≤x.loc∧x.loc≤1)∧(1≤x.qty∧x.qty≤1073741824)∧(0≤x.back∧x.back≤x.qty)∧B58 x.cost∧B58 x.profit∧(1≤x.period∧x.period≤12)
def TrOk (n w:Nat) (x:TrD):Prop:=(0≤x.src∧x.src<n)∧(0≤x.dst∧x.dst<n)∧(0≤x.item∧x.item<w)∧(0≤x.qty∧x.qty≤1073741824)∧(0≤x.value∧x.value≤1125899906842624)∧B58 x.profit
def EntD.sh (x:EntD):Int×Bool×List EntC:=(x.now,x.closed,x.ahead)
def AhOk (s:Int×Bool×List EntC):Prop:=s.2.2.length=(if s.2.1 then 1 else 0)∧∀y∈s.2.2,y.now=s.1∧y.closed=false
structure Gn (S:StD):Prop extends StOk S where
 rcl:S.receipts.length≤40
 sal:S.sales.length≤40
 trl:S.transits.length≤40
 rcb:∀x∈S.receipts,RcOk S.ents.length S.weights.length x
 sab:∀x∈S.sales,SaOk S.ents.length S.weights.length x
 trb:∀x∈S.transits,TrOk S.ents.length S.weights.length x
 d0:0≤S.done
 al:∀x∈S.ents,AhOk x.sh
 pb:∀x∈S.sales,x.period≤(S.ent x.entity).now
structure Kn (S S1:StD):Prop extends Kin S S1 where
 sh:S1.ents.map EntD.sh=S.ents.map EntD.sh
theorem Kn.refl {S:StD} (h:StOk S):Kn S S:=⟨.refl h,rfl⟩
theorem Kn.trans {S S1 S2:StD} (h:Kn S S1) (g:Kn S1 S2):Kn S S2:=⟨h.toKin.trans g.toKin,g.sh.trans h.sh⟩
theorem Kn.ix {S S1:StD} (h:Kn S S1) {e item:Int} (x:Ix S e item):Ix S1 e item:=h.toKin.ix x
theorem getD_sh (l:List EntD) (k:Nat) (d:EntD):(l.getD k d).sh=(l.map EntD.sh).getD k d.sh:=by
 simp only[List.getD_eq_getElem?_getD,List.getElem?_map]
 cases l[k]?<;>rfl
theorem Kn.shE {S S1:StD} (h:Kn S S1) (e:Int):(S1.ent e).sh=(S.ent e).sh:=by
 unfold StD.ent
 rw[getD_sh,getD_sh,h.sh]
theorem Kn.now {S S1:StD} (h:Kn S S1) (e:Int):(S1.ent e).now=(S.ent e).now:=congrArg Prod.fst (h.shE e)
theorem Kn.gn {S S1:StD} (h:Kn S S1) (G:Gn S):Gn S1:=by
 have e:=h.eq;have l:=h.len;have k:=h.ok;have s:=h.sh;have n:=h.now
 generalize S1.ents=E at *
 subst e
 refine⟨k,G.rcl,G.sal,G.trl,by show ∀x∈_,RcOk E.length _ x;rw[l];exact G.rcb,by show ∀x∈_,SaOk E.length _ x;rw[l];exact G.sab,by show ∀x∈_,TrOk E.length _ x;rw[l];exact G.trb,G.d0,?_,fun x hx=>by rw[n];exact G.pb x hx⟩
 intro x hx
 have:x.sh∈S.ents.map EntD.sh:=by rw[←s];exact List.mem_map_of_mem hx
 obtain⟨y,hy,e⟩:=List.mem_map.1 this
 rw[←e];exact G.al y hy
section
variable {S:StD} {e item:Int}
end
section
variable {S:StD}
end
structure Fine (S:StD) (r:StD×Int):Prop where
 gn:Gn r.1
 err:ErrB r.2
 no:r.2≠0→r.1=S
 le:r.1.ents.length=S.ents.length
 wt:r.1.weights=S.weights
 pe:r.1.periods=S.periods
 en:r.1.entities=S.entities
 me:r.1.methods=S.methods
 dn:r.1.done=S.done
theorem Fine.ok {S S1 T:StD} (k:Kn S S1) (g:Gn T) (h1:T.ents=S1.ents) (h2:T.weights=S1.weights) (h3:T.periods=S1.periods) (h4:T.entities=S1.entities) (h5:T.methods=S1.methods) (h6:T.done=S1.done):Fine S (T,0):=by
 have e:=k.eq;have l:=k.len
 rw[e]at h2 h3 h4 h5 h6
 exact⟨g,⟨by simp,by simp⟩,fun h=>absurd rfl h,by show T.ents.length=_;rw[h1,l],h2,h3,h4,h5,h6⟩
theorem _root_.Go.Proofs.Ytjccjmmbebiegaa.Mc.FctL.d {ρ:Nat→Int} {p:Poly} {a b:Int} {l:List (Poly×Int×Int)} (h:FctL ρ l) (h1:a≤pev ρ p:=by simp[pev,mev]<;>omega) (h2:pev ρ p≤b:=by simp[pev,mev]<;>omega):FctL ρ ((p,a,b)::l):=.cons h1 h2 h
end Go.Proofs.Ytjccjmmbebiegaa
