/-
 Operations on any state: what the program answers, in plain data; contracts of close.Step.
-/
import Derived.Test.YtnalblnmplnhmaaGreatGop0
import Derived.Test.YtnalblnmplnhmaaGreatGops
set_option linter.unusedVariables false
set_option linter.unusedSimpArgs false
namespace Go.Proofs.YtnalblnmplnhmaaGreat
open Go.RowKit Mc
structure Gen (S:StD):Prop extends StOk S where
 rcl:S.receipts.length≤40
 sal:S.sales.length≤40
 trl:S.transits.length≤40
 rcb:∀x∈S.receipts,(0≤x.entity∧x.entity<S.ents.length)∧(0≤x.item∧x.item<S.weights.length)∧(0≤x.loc∧x.loc≤1)∧(1≤x.qty∧x.qty≤1073741824)∧(0≤x.value∧x.value≤1125899906842624)∧(0≤x.opn∧x.opn≤x.qty)∧(0≤x.accrued∧x.accrued≤1125899906842624)∧(0≤x.back∧x.back≤x.qty)
 sab:∀x∈S.sales,(0≤x.entity∧x.entity<S.ents.length)∧(0≤x.item∧x.item<S.weights.length)∧(0≤x.loc∧x.loc≤1)∧(1≤x.qty∧x.qty≤1073741824)∧(0≤x.back∧x.back≤x.qty)∧B58 x.cost∧B58 x.profit∧(1≤x.period∧x.period≤12)
 trb:∀x∈S.transits,(0≤x.src∧x.src<S.ents.length)∧(0≤x.dst∧x.dst<S.ents.length)∧(0≤x.item∧x.item<S.weights.length)∧(0≤x.qty∧x.qty≤1073741824)∧(0≤x.value∧x.value≤1125899906842624)∧B58 x.profit
 d0:0≤S.done
def receiveT (S:StD) (e item loc q a:Int):StD×Int :=
 if(S.ent e).closed=true then(S,7)else if S.receipts.length=40 then(S,6)else
 match bringT S e item loc ⟨q,a,0⟩with
 |(S1,ca,up,f)=>if f≠0 then(S,f)else
  match postG S1 e [⟨0,ca⟩,⟨6,up⟩,⟨1,-a⟩]with
  |(S2,f)=>if f≠0 then(S,f)else
   match turnT S2 e item [0,ca,0,0,0,0,0,0,0,0,0]with
   |(S3,f)=>if f≠0 then(S,f)else({ S3 with receipts:=S.receipts++[⟨e,item,loc,q,a,q,a,0⟩],done:=1+S.done },0)
def sellT (S:StD) (e item loc q a:Int):StD×Int :=
 if(S.ent e).closed=true then(S,7)else if S.sales.length=40 then(S,6)else
 match fetchT S e item loc 0 q with
 |(S1,x,wt,f)=>if f≠0 then(S,f)else
  match postG S1 e [⟨3,a⟩,⟨4,-a⟩,⟨5,x.v⟩,⟨0,-x.v⟩]with
  |(S2,f)=>if f≠0 then(S,f)else
   match turnT S2 e item [0,0,0,0,0,x.v,0,0,0,0,0]with
   |(S3,f)=>if f≠0 then(S,f)else({ S3 with sales:=S.sales++[⟨e,item,loc,q,0,x.v,x.p,(S.ent e).now,wt⟩],done:=1+S.done },0)
theorem linI {l:List Lin} (h:∀x∈l,(0≤x.a∧x.a≤100)∧(-4611686018427387904≤x.n∧x.n≤4611686018427387904)):AllI (flat2 l):=flat2_of fun x hx=>by
 have:=h x hx
 exact⟨⟨by omega,by omega⟩,⟨by omega,by omega⟩⟩
theorem allB {l:List Int} (h:∀x∈l,-4611686018427387904≤x∧x≤4611686018427387904):∀x∈l,I64 x:=fun x hx=>by
 have:=h x hx
 exact⟨by omega,by omega⟩
section
variable {S:StD} {e item loc dst q a:Int}
end
end Go.Proofs.YtnalblnmplnhmaaGreat
