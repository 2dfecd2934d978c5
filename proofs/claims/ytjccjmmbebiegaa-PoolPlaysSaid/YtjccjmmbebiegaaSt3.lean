/-
 What there is: contracts of the first in's layers and of sums, over closed data.
-/
import Derived.Test.YtjccjmmbebiegaaSt2
import Derived.Test.YtjccjmmbebiegaaFifoH
set_option linter.unusedVariables false
set_option linter.unusedSimpArgs false
namespace Go.Proofs.Ytjccjmmbebiegaa
open Go.RowKit Mc
theorem ck_fifoTotal {l:List Lay} (h:LR l):CK Try.prog 54 [.lit 3 (laysR l)] (.tup [(⟨qs l,vs l,ps l⟩:Lay).av,.i 0]):=by
 refine⟨cl_cons (cl_lays _).lit cl_nil,.tup _ (cl_cons (cl_lay _) (cl_cons (.c _) cl_nil)),?_⟩
 intro A w vs hA hG hl hv
 have hvs:=one_arg hl
 generalize vs.getD 0 Go.undef=v0 at hvs
 subst hvs
 obtain⟨a,cap,rfl,R⟩:=lays_in (hv 0 _ rfl) (flat_ok h.ok)
 refine(fifo_Total a cap l w R (by have:=h.len;omega)).mono ?_
 rintro e w' ⟨rfl,hb⟩
 rw[h.tot.1,h.tot.2]
 exact⟨_,rfl,rdl_tup2 (rdl_lay _) rdl_i,hb⟩
theorem ck_fifoIn {l:List Lay} (h:LR l) (x:Lay) (hx:AllI [x.q,x.v,x.p]):CK Try.prog 69 [.lit 3 (laysR l),x.av] (.tup [.lit 3 (laysR (inS l x).1),.i (inS l x).2]):=by
 refine⟨cl_cons (cl_lays _).lit (cl_cons (cl_lay _) cl_nil),.tup _ (cl_cons (cl_lays _).lit (cl_cons (.c _) cl_nil)),?_⟩
 intro A w vs hA hG hl hv
 have hvs:=two_args hl
 generalize vs.getD 0 Go.undef=v0 at hvs
 generalize vs.getD 1 Go.undef=v1 at hvs
 subst hvs
 obtain⟨a,cap,rfl,R⟩:=lays_in (hv 0 _ rfl) (flat_ok h.ok)
 obtain rfl:=rdl_lay_inv (hv 1 _ rfl)
 refine(fifo_In a cap l x w R (by have:=h.len;omega) hx).mono ?_
 rintro e w' ⟨v,rfl,⟨a',cap',rfl,k1,k2,k3⟩,hb⟩
 refine⟨_,rfl,rdl_tup2 (lays_out hA k1 k2 ?_) rdl_i,hb⟩
 exact k3.imp id fun⟨b,off,h1,h2,h3,h4,_⟩=>⟨b,off,h1,h2,h3,h4⟩
def oneA (m c:Int) (pools:List PoolD) (B:List (List AV)) (r:List Int) (RC SA:List (List AV)) (d:Int):AV :=
 .agg [.i 1,.i 4,.lit 1 (intsR [1]),.lit 1 (intssR [[m]]),.lit 1 (intssR [[c]]),.lit 8 [[.i 1,.c (.bool false),.lit 4 (poolsR pools),.lit 1 B,.lit 11 (rollsR [r]),.lit 1 (intsR [-1]),.lit 1 (intsR [0]),.lit 8 []]],.lit 8 RC,.lit 9 SA,.lit 6 [],.i d]
theorem cl_oneA {m c:Int} {pools:List PoolD} {B:List (List AV)} {r:List Int} {RC SA:List (List AV)} {d:Int} (hB:ClR B) (hR:ClR RC) (hS:ClR SA):Cl (oneA m c pools B r RC SA d) :=
 .agg _ (cl_cons (.c _) (cl_cons (.c _) (cl_cons (cl_ints _).lit (cl_cons (cl_intss _).lit (cl_cons (cl_intss _).lit (cl_cons (clR_cons (cl_cons (.c _) (cl_cons (.c _) (cl_cons (cl_pools _).lit (cl_cons hB.lit (cl_cons (cl_rolls _).lit (cl_cons (cl_ints _).lit (cl_cons (cl_ints _).lit (cl_cons ClR.nil.lit cl_nil)))))))) ClR.nil).lit (cl_cons hR.lit (cl_cons hS.lit (cl_cons ClR.nil.lit (cl_cons (.c _) cl_nil))))))))))
end Go.Proofs.Ytjccjmmbebiegaa
