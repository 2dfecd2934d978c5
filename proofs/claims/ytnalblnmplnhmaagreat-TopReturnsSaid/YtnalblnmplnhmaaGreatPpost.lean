/-
 stock.Post: its ways. (Printed by wip/mkpath.py out of wip/paths/post.py.)
-/
import Derived.Test.YtnalblnmplnhmaaGreatSt2
set_option linter.unusedVariables false
set_option linter.unusedSimpArgs false
namespace Go.Proofs.YtnalblnmplnhmaaGreat
open Go.RowKit Mc
@[reducible] def bk_Post_plain:Bk:={ vars:=[(0,3),(0,4),(1,20)],facts:=[([([0],-1),([1],1)],1,10)],lens:=[(0,[([1],1)])],ats:=[(0,[([0],1)],[(.o 3),(.o 4),(.seq 4 8 [] []),(.seq 1 9 [] []),(.seq 11 10 [] []),(.seq 1 11 [] []),(.seq 1 12 [] []),(.seq 8 13 [] [])])],extV:=[(104,[(.seq 2 7 [] [])],(.tup [(.lit 2 []),(.e [([2],1)])]))] }
set_option maxRecDepth 1000000 in
theorem run_Post_plain:@runsTo bk_Post_plain Tryz.prog 100000 60 67 [(.agg [(.o 0),(.o 1),(.seq 1 1 [] []),(.seq 1 2 [] []),(.seq 1 3 [] []),(.seq 8 0 [] []),(.seq 8 4 [] []),(.seq 9 5 [] []),(.seq 6 6 [] []),(.o 2)]),(.e [([0],1)]),(.seq 2 7 [] [])] (.tup [(.agg [(.o 0),(.o 1),(.seq 1 1 [] []),(.seq 1 2 [] []),(.seq 1 3 [] []),(.seq 8 0 [] []),(.seq 8 4 [] []),(.seq 9 5 [] []),(.seq 6 6 [] []),(.o 2)]),(.e [([2],1)])])=true:=by decide +kernel
set_option maxRecDepth 100000 in
theorem Post_plain {S:StD} {e:Int} {l:List Lin} (hn:S.ents.length≤4) {x:EntD} (h0:0≤e) (h1:e<S.ents.length) (hx:S.ents[e.toNat]?=some x) {f:Int} (f1:1≤f) (f2:f≤20) (hP:CK Tryz.prog 104 [.lit 2 (linsR l)] (.tup [.lit 2 (linsR []),.i f])) :
  CK Tryz.prog 67 [S.av,.i e,.lit 2 (linsR l)] (.tup [S.av,.i f]):=by
 have hb:BndL bk_Post_plain.vars [e,(S.ents.length:Int),f]:=.cons (by omega) (by omega) (.cons (by omega) (by omega) (.cons (by omega) (by omega) (.nil)))
 have hf:FctL (fun i=>([e,(S.ents.length:Int),f]:List Int).getD i 0) bk_Post_plain.facts:=.cons (by simp[pev,mev];omega) (by simp[pev,mev];omega) (.nil)
 let ev:@Ev bk_Post_plain:=evSeq bk_Post_plain [e,(S.ents.length:Int),f] [.int .i64 S.entities,.int .i64 S.periods,.int .i64 S.done,.int .i64 x.now,.bool x.closed] [entsR S.ents,intsR S.weights,intssR S.methods,intssR S.costs,rcsR S.receipts,sasR S.sales,trsR S.transits,linsR l,poolsR x.pools,intsR x.bal,rollsR x.rolls,intsR x.prices,intsR x.down,aheadR x.ahead] (.nil) hb hf (ones_cons rfl (ones_cons rfl (ones_cons rfl (ones_cons rfl (ones_cons rfl (ones_nil))))))
  (.cons (by simp[pev,mev,entsR,intsR,poolsR,rcsR,sasR,trsR,linsR,laysR,rollsR,aheadR,intssR];try omega) (.nil))
  (.cons (by simp[pev,mev];try omega) (by simp[pev,mev,entsR,hx];rfl) rfl rfl (.nil))
  (spl_cons (cl_ents _) (spl_cons (cl_ints _) (spl_cons (cl_intss _) (spl_cons (cl_intss _) (spl_cons (cl_rcs _) (spl_cons (cl_sas _) (spl_cons (cl_trs _) (spl_cons (cl_lins _) (spl_cons (cl_pools _) (spl_cons (cl_ints _) (spl_cons (cl_rolls _) (spl_cons (cl_ints _) (spl_cons (cl_ints _) (spl_cons (cl_ahead _) (spl_nil)))))))))))))))
 exact CK.of_run bk_Post_plain ev run_Post_plain (exNil bk_Post_plain ev) (yeNil bk_Post_plain ev) (knCons bk_Post_plain ev (CK.named bk_Post_plain ev (hP) rfl rfl rfl) (knNil bk_Post_plain ev)) (rfl) (rfl) (cl_cons (cl_st _) (cl_cons (.c _) (cl_cons (cl_lins _).lit cl_nil))) (.tup _ (cl_cons (cl_st _) (cl_cons (.c _) cl_nil))) rfl
@[reducible] def bk_Post_gl:Bk:={ vars:=[(0,3),(0,4),(1,20)],facts:=[([([0],-1),([1],1)],1,10)],lens:=[(0,[([1],1)])],ats:=[(0,[([0],1)],[(.o 3),(.o 4),(.seq 4 8 [] []),(.seq 1 9 [] []),(.seq 11 10 [] []),(.seq 1 11 [] []),(.seq 1 12 [] []),(.seq 8 13 [] [])])],extV:=[(104,[(.seq 2 7 [] [])],(.tup [(.seq 2 14 [] []),(.c (.int .i64 0))])),
  (105,[(.seq 1 9 [] []),(.seq 2 14 [] [])],(.tup [(.seq 1 15 [] []),(.e [([2],1)])]))] }
set_option maxRecDepth 1000000 in
theorem run_Post_gl:@runsTo bk_Post_gl Tryz.prog 100000 60 67 [(.agg [(.o 0),(.o 1),(.seq 1 1 [] []),(.seq 1 2 [] []),(.seq 1 3 [] []),(.seq 8 0 [] []),(.seq 8 4 [] []),(.seq 9 5 [] []),(.seq 6 6 [] []),(.o 2)]),(.e [([0],1)]),(.seq 2 7 [] [])] (.tup [(.agg [(.o 0),(.o 1),(.seq 1 1 [] []),(.seq 1 2 [] []),(.seq 1 3 [] []),(.seq 8 0 [] []),(.seq 8 4 [] []),(.seq 9 5 [] []),(.seq 6 6 [] []),(.o 2)]),(.e [([2],1)])])=true:=by decide +kernel
set_option maxRecDepth 100000 in
theorem Post_gl {S:StD} {e:Int} {l:List Lin} (hn:S.ents.length≤4) {x:EntD} (h0:0≤e) (h1:e<S.ents.length) (hx:S.ents[e.toNat]?=some x) {m:List Lin} {b:List Int} {f:Int} (f1:1≤f) (f2:f≤20) (hP:CK Tryz.prog 104 [.lit 2 (linsR l)] (.tup [.lit 2 (linsR m),.i 0])) (hG:CK Tryz.prog 105 [.lit 1 (intsR x.bal),.lit 2 (linsR m)] (.tup [.lit 1 (intsR b),.i f])) :
  CK Tryz.prog 67 [S.av,.i e,.lit 2 (linsR l)] (.tup [S.av,.i f]):=by
 have hb:BndL bk_Post_gl.vars [e,(S.ents.length:Int),f]:=.cons (by omega) (by omega) (.cons (by omega) (by omega) (.cons (by omega) (by omega) (.nil)))
 have hf:FctL (fun i=>([e,(S.ents.length:Int),f]:List Int).getD i 0) bk_Post_gl.facts:=.cons (by simp[pev,mev];omega) (by simp[pev,mev];omega) (.nil)
 let ev:@Ev bk_Post_gl:=evSeq bk_Post_gl [e,(S.ents.length:Int),f] [.int .i64 S.entities,.int .i64 S.periods,.int .i64 S.done,.int .i64 x.now,.bool x.closed] [entsR S.ents,intsR S.weights,intssR S.methods,intssR S.costs,rcsR S.receipts,sasR S.sales,trsR S.transits,linsR l,poolsR x.pools,intsR x.bal,rollsR x.rolls,intsR x.prices,intsR x.down,aheadR x.ahead,linsR m,intsR b] (.nil) hb hf (ones_cons rfl (ones_cons rfl (ones_cons rfl (ones_cons rfl (ones_cons rfl (ones_nil))))))
  (.cons (by simp[pev,mev,entsR,intsR,poolsR,rcsR,sasR,trsR,linsR,laysR,rollsR,aheadR,intssR];try omega) (.nil))
  (.cons (by simp[pev,mev];try omega) (by simp[pev,mev,entsR,hx];rfl) rfl rfl (.nil))
  (spl_cons (cl_ents _) (spl_cons (cl_ints _) (spl_cons (cl_intss _) (spl_cons (cl_intss _) (spl_cons (cl_rcs _) (spl_cons (cl_sas _) (spl_cons (cl_trs _) (spl_cons (cl_lins _) (spl_cons (cl_pools _) (spl_cons (cl_ints _) (spl_cons (cl_rolls _) (spl_cons (cl_ints _) (spl_cons (cl_ints _) (spl_cons (cl_ahead _) (spl_cons (cl_lins _) (spl_cons (cl_ints _) (spl_nil)))))))))))))))))
 exact CK.of_run bk_Post_gl ev run_Post_gl (exNil bk_Post_gl ev) (yeNil bk_Post_gl ev) (knCons bk_Post_gl ev (CK.named bk_Post_gl ev (hP) rfl rfl rfl) (knCons bk_Post_gl ev (CK.named bk_Post_gl ev (hG) rfl rfl rfl) (knNil bk_Post_gl ev))) (rfl) (rfl) (cl_cons (cl_st _) (cl_cons (.c _) (cl_cons (cl_lins _).lit cl_nil))) (.tup _ (cl_cons (cl_st _) (cl_cons (.c _) cl_nil))) rfl
@[reducible] def bk_Post_ok:Bk:={ vars:=[(0,3),(0,4)],facts:=[([([0],-1),([1],1)],1,10)],lens:=[(0,[([1],1)])],ats:=[(0,[([0],1)],[(.o 3),(.o 4),(.seq 4 8 [] []),(.seq 1 9 [] []),(.seq 11 10 [] []),(.seq 1 11 [] []),(.seq 1 12 [] []),(.seq 8 13 [] [])])],extV:=[(104,[(.seq 2 7 [] [])],(.tup [(.seq 2 14 [] []),(.c (.int .i64 0))])),
  (105,[(.seq 1 9 [] []),(.seq 2 14 [] [])],(.tup [(.seq 1 15 [] []),(.c (.int .i64 0))]))] }
set_option maxRecDepth 1000000 in
theorem run_Post_ok:@runsTo bk_Post_ok Tryz.prog 100000 60 67 [(.agg [(.o 0),(.o 1),(.seq 1 1 [] []),(.seq 1 2 [] []),(.seq 1 3 [] []),(.seq 8 0 [] []),(.seq 8 4 [] []),(.seq 9 5 [] []),(.seq 6 6 [] []),(.o 2)]),(.e [([0],1)]),(.seq 2 7 [] [])] (.tup [(.agg [(.o 0),(.o 1),(.seq 1 1 [] []),(.seq 1 2 [] []),(.seq 1 3 [] []),(.seq 8 0 [([([0],1)],[(.o 3),(.o 4),(.seq 4 8 [] []),(.seq 1 15 [] []),(.seq 11 10 [] []),(.seq 1 11 [] []),(.seq 1 12 [] []),(.seq 8 13 [] [])])] []),(.seq 8 4 [] []),(.seq 9 5 [] []),(.seq 6 6 [] []),(.o 2)]),(.c (.int .i64 0))])=true:=by decide +kernel
set_option maxRecDepth 100000 in
theorem Post_ok {S:StD} {e:Int} {l:List Lin} (hn:S.ents.length≤4) {x:EntD} (h0:0≤e) (h1:e<S.ents.length) (hx:S.ents[e.toNat]?=some x) {m:List Lin} {b:List Int} (hP:CK Tryz.prog 104 [.lit 2 (linsR l)] (.tup [.lit 2 (linsR m),.i 0])) (hG:CK Tryz.prog 105 [.lit 1 (intsR x.bal),.lit 2 (linsR m)] (.tup [.lit 1 (intsR b),.i 0])) :
  CK Tryz.prog 67 [S.av,.i e,.lit 2 (linsR l)] (.tup [(S.setEnt e (x.setBal b)).av,.i 0]):=by
 have hb:BndL bk_Post_ok.vars [e,(S.ents.length:Int)]:=.cons (by omega) (by omega) (.cons (by omega) (by omega) (.nil))
 have hf:FctL (fun i=>([e,(S.ents.length:Int)]:List Int).getD i 0) bk_Post_ok.facts:=.cons (by simp[pev,mev];omega) (by simp[pev,mev];omega) (.nil)
 let ev:@Ev bk_Post_ok:=evSeq bk_Post_ok [e,(S.ents.length:Int)] [.int .i64 S.entities,.int .i64 S.periods,.int .i64 S.done,.int .i64 x.now,.bool x.closed] [entsR S.ents,intsR S.weights,intssR S.methods,intssR S.costs,rcsR S.receipts,sasR S.sales,trsR S.transits,linsR l,poolsR x.pools,intsR x.bal,rollsR x.rolls,intsR x.prices,intsR x.down,aheadR x.ahead,linsR m,intsR b] (.nil) hb hf (ones_cons rfl (ones_cons rfl (ones_cons rfl (ones_cons rfl (ones_cons rfl (ones_nil))))))
  (.cons (by simp[pev,mev,entsR,intsR,poolsR,rcsR,sasR,trsR,linsR,laysR,rollsR,aheadR,intssR];try omega) (.nil))
  (.cons (by simp[pev,mev];try omega) (by simp[pev,mev,entsR,hx];rfl) rfl rfl (.nil))
  (spl_cons (cl_ents _) (spl_cons (cl_ints _) (spl_cons (cl_intss _) (spl_cons (cl_intss _) (spl_cons (cl_rcs _) (spl_cons (cl_sas _) (spl_cons (cl_trs _) (spl_cons (cl_lins _) (spl_cons (cl_pools _) (spl_cons (cl_ints _) (spl_cons (cl_rolls _) (spl_cons (cl_ints _) (spl_cons (cl_ints _) (spl_cons (cl_ahead _) (spl_cons (cl_lins _) (spl_cons (cl_ints _) (spl_nil)))))))))))))))))
 exact CK.of_run bk_Post_ok ev run_Post_ok (exNil bk_Post_ok ev) (yeNil bk_Post_ok ev) (knCons bk_Post_ok ev (CK.named bk_Post_ok ev (hP) rfl rfl rfl) (knCons bk_Post_ok ev (CK.named bk_Post_ok ev (hG) rfl rfl rfl) (knNil bk_Post_ok ev))) (rfl) (by rw[show(S.setEnt e (x.setBal b)).av=_ from rfl];unfold StD.av;rw[setEnt_ents];rfl) (cl_cons (cl_st _) (cl_cons (.c _) (cl_cons (cl_lins _).lit cl_nil))) (.tup _ (cl_cons (cl_st _) (cl_cons (.c _) cl_nil))) rfl
end Go.Proofs.YtnalblnmplnhmaaGreat
