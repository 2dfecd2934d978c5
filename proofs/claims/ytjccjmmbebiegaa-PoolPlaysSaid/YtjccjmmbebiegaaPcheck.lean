/-
 ops.Check: operations that may be. (Printed by wip/mkpath.py out of wip/paths/check.py.)
-/
import Derived.Test.YtjccjmmbebiegaaSt2
import Derived.Test.YtjccjmmbebiegaaTlSh
set_option linter.unusedVariables false
set_option linter.unusedSimpArgs false
namespace Go.Proofs.Ytjccjmmbebiegaa
open Go.RowKit Mc
structure OpD where
 (kind e item loc dst qty amount ref:Int)
def OpD.av (o:OpD):AV:=.agg [.i o.kind,.i o.e,.i o.item,.i o.loc,.i o.dst,.i o.qty,.i o.amount,.i o.ref,.emp]
def opAv (k e item loc dst qty amount ref:Int):AV:=(OpD.mk k e item loc dst qty amount ref).av
theorem cl_op (o:OpD):Cl o.av:=.agg _ (cl_cons (.c _) (cl_cons (.c _) (cl_cons (.c _) (cl_cons (.c _) (cl_cons (.c _) (cl_cons (.c _) (cl_cons (.c _) (cl_cons (.c _) (cl_cons .emp cl_nil)))))))))
end Go.Proofs.Ytjccjmmbebiegaa
