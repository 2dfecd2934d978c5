/-
 close.Step on any state: the ways of goods that come, go, come back, are moved, counted, thrown away. (Printed by wip/mkpath.py out of wip/paths/gops.py.)
-/
import Derived.Test.YtnalblnmplnhmaaGreatZ
set_option linter.unusedVariables false
set_option linter.unusedSimpArgs false
namespace Go.Proofs.YtnalblnmplnhmaaGreat
open Go.RowKit Mc
set_option maxRecDepth 1000000
abbrev b_Op_receive_Ready:Bk:={ vars:=[(0,3),(0,4),(0,1),(1,1073741824),(0,1125899906842624),(0,1000000),(0,40),(0,40),(0,40),(1,20)],lens:=[(4,[([6],1)]),(5,[([7],1)]),(6,[([8],1)])],extV:=[(19,[(.agg [.i 1,.v 0,.v 1,.v 2,.i 0,.v 3,.v 4,.i 0,.emp])],(.c (.bool true))),
 (113,[(sN (.q 8 0) (.v 5)),.v 0,.v 1],(.v 9))] }
theorem Op_receive_Ready {S:StD} {e:Int} (he:0≤e∧e≤3) {item:Int} (hitem:0≤item∧item≤4) {loc:Int} (hloc:0≤loc∧loc≤1) {qty:Int} (hqty:1≤qty∧qty≤1073741824) {amount:Int} (hamount:0≤amount∧amount≤1125899906842624) (hd:Od S) {f:Int} (f1:1≤f∧f≤20) (hC:Ck 19 [opAv 1 e item loc 0 qty amount 0] (.c (.bool true))) (h2:Ck 113 [S.av,.i e,.i item] (.i f)) :
 Ck 11 [S.av,opAv 1 e item loc 0 qty amount 0] (.tup [S.av,.i f]):=by
 let ev:=evS b_Op_receive_Ready [e,item,loc,qty,amount,S.done,(S.receipts.length:Int),(S.sales.length:Int),(S.transits.length:Int),f] [.int .i64 S.entities,.int .i64 S.periods,.int .i64 S.done] (oS S []) BndL.nil.c.c.c.c.c.c.c.c.c.c FctL.nil LenL.nil.c.c.c (.nil)
 exact CK.way _ ev [(sN (.q 8 0) (.v 5)),(.agg [.i 1,.v 0,.v 1,.v 2,.i 0,.v 3,.v 4,.i 0,.emp])] (.tup [(sN (.q 8 0) (.v 5)),.v 9]) (by decide +kernel) (kc hC (kc h2 kn))
abbrev b_Op_receive_Full:Bk:={ vars:=[(0,3),(0,4),(0,1),(1,1073741824),(0,1125899906842624),(0,1000000),(40,40),(0,40),(0,40)],lens:=[(4,[([6],1)]),(5,[([7],1)]),(6,[([8],1)])],extV:=[(19,[(.agg [.i 1,.v 0,.v 1,.v 2,.i 0,.v 3,.v 4,.i 0,.emp])],(.c (.bool true))),
 (113,[(sN (.q 8 0) (.v 5)),.v 0,.v 1],(.i 0))] }
theorem Op_receive_Full {S:StD} {e:Int} (he:0≤e∧e≤3) {item:Int} (hitem:0≤item∧item≤4) {loc:Int} (hloc:0≤loc∧loc≤1) {qty:Int} (hqty:1≤qty∧qty≤1073741824) {amount:Int} (hamount:0≤amount∧amount≤1125899906842624) (hd:Od S) (hfull:S.receipts.length=40) (hC:Ck 19 [opAv 1 e item loc 0 qty amount 0] (.c (.bool true))) (h2:Ck 113 [S.av,.i e,.i item] (.i 0)) :
 Ck 11 [S.av,opAv 1 e item loc 0 qty amount 0] (.tup [S.av,.i 6]):=by
 let ev:=evS b_Op_receive_Full [e,item,loc,qty,amount,S.done,(S.receipts.length:Int),(S.sales.length:Int),(S.transits.length:Int)] [.int .i64 S.entities,.int .i64 S.periods,.int .i64 S.done] (oS S []) BndL.nil.c.c.c.c.c.c.c.c.c FctL.nil LenL.nil.c.c.c (.nil)
 exact CK.way _ ev [(sN (.q 8 0) (.v 5)),(.agg [.i 1,.v 0,.v 1,.v 2,.i 0,.v 3,.v 4,.i 0,.emp])] (.tup [(sN (.q 8 0) (.v 5)),.i 6]) (by decide +kernel) (kc hC (kc h2 kn))
abbrev b_Op_receive_Bring:Bk:={ vars:=[(0,3),(0,4),(0,1),(1,1073741824),(0,1125899906842624),(0,1000000),(0,39),(0,40),(0,40),(1,20)],lens:=[(4,[([6],1)]),(5,[([7],1)]),(6,[([8],1)])],extV:=[(19,[(.agg [.i 1,.v 0,.v 1,.v 2,.i 0,.v 3,.v 4,.i 0,.emp])],(.c (.bool true))),
 (113,[(sN (.q 8 0) (.v 5)),.v 0,.v 1],(.i 0)),
 (116,[(sN (.q 8 0) (.v 5)),.v 0,.v 1,.v 2,(.agg [.v 3,.v 4,.i 0])],(.tup [(sN (.q 8 0) (.v 5)),.i 0,.i 0,.v 9]))] }
theorem Op_receive_Bring {S:StD} {e:Int} (he:0≤e∧e≤3) {item:Int} (hitem:0≤item∧item≤4) {loc:Int} (hloc:0≤loc∧loc≤1) {qty:Int} (hqty:1≤qty∧qty≤1073741824) {amount:Int} (hamount:0≤amount∧amount≤1125899906842624) (hd:Od S) (hfull:S.receipts.length<40) {f:Int} (f1:1≤f∧f≤20) (hC:Ck 19 [opAv 1 e item loc 0 qty amount 0] (.c (.bool true))) (h2:Ck 113 [S.av,.i e,.i item] (.i 0)) (h3:Ck 116 [S.av,.i e,.i item,.i loc,Lay.av ⟨qty,amount,0⟩] (.tup [S.av,.i 0,.i 0,.i f])) :
 Ck 11 [S.av,opAv 1 e item loc 0 qty amount 0] (.tup [S.av,.i f]):=by
 let ev:=evS b_Op_receive_Bring [e,item,loc,qty,amount,S.done,(S.receipts.length:Int),(S.sales.length:Int),(S.transits.length:Int),f] [.int .i64 S.entities,.int .i64 S.periods,.int .i64 S.done] (oS S []) BndL.nil.c.c.c.c.c.c.c.c.c.c FctL.nil LenL.nil.c.c.c (.nil)
 exact CK.way _ ev [(sN (.q 8 0) (.v 5)),(.agg [.i 1,.v 0,.v 1,.v 2,.i 0,.v 3,.v 4,.i 0,.emp])] (.tup [(sN (.q 8 0) (.v 5)),.v 9]) (by decide +kernel) (kc hC (kc h2 (kc h3 kn)))
abbrev b_Op_receive_Post:Bk:={ vars:=[(0,3),(0,4),(0,1),(1,1073741824),(0,1125899906842624),(0,1000000),(0,39),(0,40),(0,40),(1,20)],lens:=[(4,[([6],1)]),(5,[([7],1)]),(6,[([8],1)])],extV:=[(19,[(.agg [.i 1,.v 0,.v 1,.v 2,.i 0,.v 3,.v 4,.i 0,.emp])],(.c (.bool true))),
 (113,[(sN (.q 8 0) (.v 5)),.v 0,.v 1],(.i 0)),
 (116,[(sN (.q 8 0) (.v 5)),.v 0,.v 1,.v 2,(.agg [.v 3,.v 4,.i 0])],(.tup [(sN (.q 8 7) (.v 5)),.o 3,.o 4,.i 0])),
 (67,[(sN (.q 8 7) (.v 5)),.v 0,(.lit 2 [[.i 0,.o 3],[.i 6,.o 4],[.i 1,(.e [([4],-1)])]])],(.tup [(sN (.q 8 7) (.v 5)),.v 9]))] }
theorem Op_receive_Post {S:StD} {e:Int} (he:0≤e∧e≤3) {item:Int} (hitem:0≤item∧item≤4) {loc:Int} (hloc:0≤loc∧loc≤1) {qty:Int} (hqty:1≤qty∧qty≤1073741824) {amount:Int} (hamount:0≤amount∧amount≤1125899906842624) (hd:Od S) (hfull:S.receipts.length<40) {ca up:Int} {E1:List EntD} {f:Int} (f1:1≤f∧f≤20) {na:Int} (h_na:na=-amount) (hC:Ck 19 [opAv 1 e item loc 0 qty amount 0] (.c (.bool true))) (h2:Ck 113 [S.av,.i e,.i item] (.i 0)) (h3:Ck 116 [S.av,.i e,.i item,.i loc,Lay.av ⟨qty,amount,0⟩] (.tup [(S.withEnts E1).av,.i ca,.i up,.i 0])) (h4:Ck 67 [(S.withEnts E1).av,.i e,.lit 2 (linsR [⟨0,ca⟩,⟨6,up⟩,⟨1,na⟩])] (.tup [(S.withEnts E1).av,.i f])) :
 Ck 11 [S.av,opAv 1 e item loc 0 qty amount 0] (.tup [S.av,.i f]):=by
 obtain⟨ρ,hρ⟩:=rh [e,item,loc,qty,amount,S.done,(S.receipts.length:Int),(S.sales.length:Int),(S.transits.length:Int),f]
 obtain rfl:=eqv hρ h_na [([4],-1)]
 subst hρ
 let ev:=evS b_Op_receive_Post [e,item,loc,qty,amount,S.done,(S.receipts.length:Int),(S.sales.length:Int),(S.transits.length:Int),f] [.int .i64 S.entities,.int .i64 S.periods,.int .i64 S.done,.int .i64 ca,.int .i64 up] (oS S [entsR E1]) BndL.nil.c.c.c.c.c.c.c.c.c.c FctL.nil LenL.nil.c.c.c (.nil)
 exact CK.way _ ev [(sN (.q 8 0) (.v 5)),(.agg [.i 1,.v 0,.v 1,.v 2,.i 0,.v 3,.v 4,.i 0,.emp])] (.tup [(sN (.q 8 0) (.v 5)),.v 9]) (by decide +kernel) (kc hC (kc h2 (kc h3 (kc h4 kn))))
abbrev b_Op_receive_Turn:Bk:={ vars:=[(0,3),(0,4),(0,1),(1,1073741824),(0,1125899906842624),(0,1000000),(0,39),(0,40),(0,40),(1,20)],lens:=[(4,[([6],1)]),(5,[([7],1)]),(6,[([8],1)])],extV:=[(19,[(.agg [.i 1,.v 0,.v 1,.v 2,.i 0,.v 3,.v 4,.i 0,.emp])],(.c (.bool true))),
 (113,[(sN (.q 8 0) (.v 5)),.v 0,.v 1],(.i 0)),
 (116,[(sN (.q 8 0) (.v 5)),.v 0,.v 1,.v 2,(.agg [.v 3,.v 4,.i 0])],(.tup [(sN (.q 8 7) (.v 5)),.o 3,.o 4,.i 0])),
 (67,[(sN (.q 8 7) (.v 5)),.v 0,(.lit 2 [[.i 0,.o 3],[.i 6,.o 4],[.i 1,(.e [([4],-1)])]])],(.tup [(sN (.q 8 8) (.v 5)),.i 0])),
 (68,[(sN (.q 8 8) (.v 5)),.v 0,.v 1,(.agg [.i 0,.o 3,.i 0,.i 0,.i 0,.i 0,.i 0,.i 0,.i 0,.i 0,.i 0])],(.tup [(sN (.q 8 8) (.v 5)),.v 9]))] }
theorem Op_receive_Turn {S:StD} {e:Int} (he:0≤e∧e≤3) {item:Int} (hitem:0≤item∧item≤4) {loc:Int} (hloc:0≤loc∧loc≤1) {qty:Int} (hqty:1≤qty∧qty≤1073741824) {amount:Int} (hamount:0≤amount∧amount≤1125899906842624) (hd:Od S) (hfull:S.receipts.length<40) {ca up:Int} {E1 E2:List EntD} {f:Int} (f1:1≤f∧f≤20) {na:Int} (h_na:na=-amount) (hC:Ck 19 [opAv 1 e item loc 0 qty amount 0] (.c (.bool true))) (h2:Ck 113 [S.av,.i e,.i item] (.i 0)) (h3:Ck 116 [S.av,.i e,.i item,.i loc,Lay.av ⟨qty,amount,0⟩] (.tup [(S.withEnts E1).av,.i ca,.i up,.i 0])) (h4:Ck 67 [(S.withEnts E1).av,.i e,.lit 2 (linsR [⟨0,ca⟩,⟨6,up⟩,⟨1,na⟩])] (.tup [(S.withEnts E2).av,.i 0])) (h5:Ck 68 [(S.withEnts E2).av,.i e,.i item,.agg (rowI [0,ca,0,0,0,0,0,0,0,0,0])] (.tup [(S.withEnts E2).av,.i f])) :
 Ck 11 [S.av,opAv 1 e item loc 0 qty amount 0] (.tup [S.av,.i f]):=by
 obtain⟨ρ,hρ⟩:=rh [e,item,loc,qty,amount,S.done,(S.receipts.length:Int),(S.sales.length:Int),(S.transits.length:Int),f]
 obtain rfl:=eqv hρ h_na [([4],-1)]
 subst hρ
 let ev:=evS b_Op_receive_Turn [e,item,loc,qty,amount,S.done,(S.receipts.length:Int),(S.sales.length:Int),(S.transits.length:Int),f] [.int .i64 S.entities,.int .i64 S.periods,.int .i64 S.done,.int .i64 ca,.int .i64 up] (oS S [entsR E1,entsR E2]) BndL.nil.c.c.c.c.c.c.c.c.c.c FctL.nil LenL.nil.c.c.c (.nil)
 exact CK.way _ ev [(sN (.q 8 0) (.v 5)),(.agg [.i 1,.v 0,.v 1,.v 2,.i 0,.v 3,.v 4,.i 0,.emp])] (.tup [(sN (.q 8 0) (.v 5)),.v 9]) (by decide +kernel) (kc hC (kc h2 (kc h3 (kc h4 (kc h5 kn)))))
abbrev b_Op_receive_ok:Bk:={ vars:=[(0,3),(0,4),(0,1),(1,1073741824),(0,1125899906842624),(0,1000000),(0,39),(0,40),(0,40)],lens:=[(4,[([6],1)]),(5,[([7],1)]),(6,[([8],1)])],extV:=[(19,[(.agg [.i 1,.v 0,.v 1,.v 2,.i 0,.v 3,.v 4,.i 0,.emp])],(.c (.bool true))),
 (113,[(sN (.q 8 0) (.v 5)),.v 0,.v 1],(.i 0)),
 (116,[(sN (.q 8 0) (.v 5)),.v 0,.v 1,.v 2,(.agg [.v 3,.v 4,.i 0])],(.tup [(sN (.q 8 7) (.v 5)),.o 3,.o 4,.i 0])),
 (67,[(sN (.q 8 7) (.v 5)),.v 0,(.lit 2 [[.i 0,.o 3],[.i 6,.o 4],[.i 1,(.e [([4],-1)])]])],(.tup [(sN (.q 8 8) (.v 5)),.i 0])),
 (68,[(sN (.q 8 8) (.v 5)),.v 0,.v 1,(.agg [.i 0,.o 3,.i 0,.i 0,.i 0,.i 0,.i 0,.i 0,.i 0,.i 0,.i 0])],(.tup [(sN (.q 8 9) (.v 5)),.i 0]))] }
theorem Op_receive_ok {S:StD} {e:Int} (he:0≤e∧e≤3) {item:Int} (hitem:0≤item∧item≤4) {loc:Int} (hloc:0≤loc∧loc≤1) {qty:Int} (hqty:1≤qty∧qty≤1073741824) {amount:Int} (hamount:0≤amount∧amount≤1125899906842624) (hd:Od S) (hfull:S.receipts.length<40) {ca up:Int} {E1 E2 E3:List EntD} {na:Int} (h_na:na=-amount) {d':Int} (h_d':d'=1+S.done) (hC:Ck 19 [opAv 1 e item loc 0 qty amount 0] (.c (.bool true))) (h2:Ck 113 [S.av,.i e,.i item] (.i 0)) (h3:Ck 116 [S.av,.i e,.i item,.i loc,Lay.av ⟨qty,amount,0⟩] (.tup [(S.withEnts E1).av,.i ca,.i up,.i 0])) (h4:Ck 67 [(S.withEnts E1).av,.i e,.lit 2 (linsR [⟨0,ca⟩,⟨6,up⟩,⟨1,na⟩])] (.tup [(S.withEnts E2).av,.i 0])) (h5:Ck 68 [(S.withEnts E2).av,.i e,.i item,.agg (rowI [0,ca,0,0,0,0,0,0,0,0,0])] (.tup [(S.withEnts E3).av,.i 0])) :
 Ck 11 [S.av,opAv 1 e item loc 0 qty amount 0] (.tup [S.avX (entsR E3) (rcsR S.receipts++[rowI [e,item,loc,qty,amount,qty,amount,0]]) (sasR S.sales) (trsR S.transits) d',.i 0]):=by
 obtain⟨ρ,hρ⟩:=rh [e,item,loc,qty,amount,S.done,(S.receipts.length:Int),(S.sales.length:Int),(S.transits.length:Int)]
 obtain rfl:=eqv hρ h_na [([4],-1)]
 obtain rfl:=eqv hρ h_d' [([],1),([5],1)]
 subst hρ
 let ev:=evS b_Op_receive_ok [e,item,loc,qty,amount,S.done,(S.receipts.length:Int),(S.sales.length:Int),(S.transits.length:Int)] [.int .i64 S.entities,.int .i64 S.periods,.int .i64 S.done,.int .i64 ca,.int .i64 up] (oS S [entsR E1,entsR E2,entsR E3]) BndL.nil.c.c.c.c.c.c.c.c.c FctL.nil LenL.nil.c.c.c (.nil)
 exact CK.way _ ev [(sN (.q 8 0) (.v 5)),(.agg [.i 1,.v 0,.v 1,.v 2,.i 0,.v 3,.v 4,.i 0,.emp])] (.tup [(.agg [.o 0,.o 1,.q 1 1,.q 1 2,.q 1 3,.q 8 9,(.seq 8 4 [] [[.v 0,.v 1,.v 2,.v 3,.v 4,.v 3,.v 4,.i 0]]),.q 9 5,.q 6 6,(.e [([],1),([5],1)])]),.i 0]) (by decide +kernel) (kc hC (kc h2 (kc h3 (kc h4 (kc h5 kn)))))
abbrev b_Op_move_Ready:Bk:={ vars:=[(0,3),(0,4),(0,1),(0,1),(1,1073741824),(0,1000000),(0,40),(0,40),(0,40),(1,20)],lens:=[(4,[([6],1)]),(5,[([7],1)]),(6,[([8],1)])],extV:=[(19,[(.agg [.i 8,.v 0,.v 1,.v 2,.v 3,.v 4,.i 0,.i 0,.emp])],(.c (.bool true))),
 (113,[(sN (.q 8 0) (.v 5)),.v 0,.v 1],(.v 9))] }
theorem Op_move_Ready {S:StD} {e:Int} (he:0≤e∧e≤3) {item:Int} (hitem:0≤item∧item≤4) {loc:Int} (hloc:0≤loc∧loc≤1) {dst:Int} (hdst:0≤dst∧dst≤1) {qty:Int} (hqty:1≤qty∧qty≤1073741824) (hd:Od S) {f:Int} (f1:1≤f∧f≤20) (hC:Ck 19 [opAv 8 e item loc dst qty 0 0] (.c (.bool true))) (h2:Ck 113 [S.av,.i e,.i item] (.i f)) :
 Ck 11 [S.av,opAv 8 e item loc dst qty 0 0] (.tup [S.av,.i f]):=by
 let ev:=evS b_Op_move_Ready [e,item,loc,dst,qty,S.done,(S.receipts.length:Int),(S.sales.length:Int),(S.transits.length:Int),f] [.int .i64 S.entities,.int .i64 S.periods,.int .i64 S.done] (oS S []) BndL.nil.c.c.c.c.c.c.c.c.c.c FctL.nil LenL.nil.c.c.c (.nil)
 exact CK.way _ ev [(sN (.q 8 0) (.v 5)),(.agg [.i 8,.v 0,.v 1,.v 2,.v 3,.v 4,.i 0,.i 0,.emp])] (.tup [(sN (.q 8 0) (.v 5)),.v 9]) (by decide +kernel) (kc hC (kc h2 kn))
abbrev b_Op_move_MFetch:Bk:={ vars:=[(0,3),(0,4),(0,1),(0,1),(1,1073741824),(0,1000000),(0,40),(0,40),(0,40),(1,20)],lens:=[(4,[([6],1)]),(5,[([7],1)]),(6,[([8],1)])],extV:=[(19,[(.agg [.i 8,.v 0,.v 1,.v 2,.v 3,.v 4,.i 0,.i 0,.emp])],(.c (.bool true))),
 (113,[(sN (.q 8 0) (.v 5)),.v 0,.v 1],(.i 0)),
 (161,[(sN (.q 8 0) (.v 5)),.v 0,.v 1,.v 2,.i 3,.v 4],(.tup [(sN (.q 8 0) (.v 5)),(.agg [.i 0,.i 0,.i 0]),(.c (.bool false)),.v 9]))] }
theorem Op_move_MFetch {S:StD} {e:Int} (he:0≤e∧e≤3) {item:Int} (hitem:0≤item∧item≤4) {loc:Int} (hloc:0≤loc∧loc≤1) {dst:Int} (hdst:0≤dst∧dst≤1) {qty:Int} (hqty:1≤qty∧qty≤1073741824) (hd:Od S) {f:Int} (f1:1≤f∧f≤20) (hC:Ck 19 [opAv 8 e item loc dst qty 0 0] (.c (.bool true))) (h2:Ck 113 [S.av,.i e,.i item] (.i 0)) (h3:Ck 161 [S.av,.i e,.i item,.i loc,.i 3,.i qty] (.tup [S.av,Lay.av ⟨0,0,0⟩,.c (.bool false),.i f])) :
 Ck 11 [S.av,opAv 8 e item loc dst qty 0 0] (.tup [S.av,.i f]):=by
 let ev:=evS b_Op_move_MFetch [e,item,loc,dst,qty,S.done,(S.receipts.length:Int),(S.sales.length:Int),(S.transits.length:Int),f] [.int .i64 S.entities,.int .i64 S.periods,.int .i64 S.done] (oS S []) BndL.nil.c.c.c.c.c.c.c.c.c.c FctL.nil LenL.nil.c.c.c (.nil)
 exact CK.way _ ev [(sN (.q 8 0) (.v 5)),(.agg [.i 8,.v 0,.v 1,.v 2,.v 3,.v 4,.i 0,.i 0,.emp])] (.tup [(sN (.q 8 0) (.v 5)),.v 9]) (by decide +kernel) (kc hC (kc h2 (kc h3 kn)))
abbrev b_Op_move_MBring:Bk:={ vars:=[(0,3),(0,4),(0,1),(0,1),(1,1073741824),(0,1000000),(0,40),(0,40),(0,40),w60,(1,20)],lens:=[(4,[([6],1)]),(5,[([7],1)]),(6,[([8],1)])],extV:=[(19,[(.agg [.i 8,.v 0,.v 1,.v 2,.v 3,.v 4,.i 0,.i 0,.emp])],(.c (.bool true))),
 (113,[(sN (.q 8 0) (.v 5)),.v 0,.v 1],(.i 0)),
 (161,[(sN (.q 8 0) (.v 5)),.v 0,.v 1,.v 2,.i 3,.v 4],(.tup [(sN (.q 8 7) (.v 5)),(.agg [.o 3,.v 9,.o 4]),.o 5,.i 0])),
 (116,[(sN (.q 8 7) (.v 5)),.v 0,.v 1,.v 3,(.agg [.o 3,.v 9,.o 4])],(.tup [(sN (.q 8 7) (.v 5)),.i 0,.i 0,.v 10]))] }
theorem Op_move_MBring {S:StD} {e:Int} (he:0≤e∧e≤3) {item:Int} (hitem:0≤item∧item≤4) {loc:Int} (hloc:0≤loc∧loc≤1) {dst:Int} (hdst:0≤dst∧dst≤1) {qty:Int} (hqty:1≤qty∧qty≤1073741824) (hd:Od S) {xq xv:Int} (b_xv:B60 xv) {xp:Int} {wt:Bool} {E1:List EntD} {f:Int} (f1:1≤f∧f≤20) (hC:Ck 19 [opAv 8 e item loc dst qty 0 0] (.c (.bool true))) (h2:Ck 113 [S.av,.i e,.i item] (.i 0)) (h3:Ck 161 [S.av,.i e,.i item,.i loc,.i 3,.i qty] (.tup [(S.withEnts E1).av,Lay.av ⟨xq,xv,xp⟩,.c (.bool wt),.i 0])) (h4:Ck 116 [(S.withEnts E1).av,.i e,.i item,.i dst,Lay.av ⟨xq,xv,xp⟩] (.tup [(S.withEnts E1).av,.i 0,.i 0,.i f])) :
 Ck 11 [S.av,opAv 8 e item loc dst qty 0 0] (.tup [S.av,.i f]):=by
 let ev:=evS b_Op_move_MBring [e,item,loc,dst,qty,S.done,(S.receipts.length:Int),(S.sales.length:Int),(S.transits.length:Int),xv,f] [.int .i64 S.entities,.int .i64 S.periods,.int .i64 S.done,.int .i64 xq,.int .i64 xp,.bool wt] (oS S [entsR E1]) BndL.nil.c.c.c.c.c.c.c.c.c.c.c FctL.nil LenL.nil.c.c.c (.nil)
 exact CK.way _ ev [(sN (.q 8 0) (.v 5)),(.agg [.i 8,.v 0,.v 1,.v 2,.v 3,.v 4,.i 0,.i 0,.emp])] (.tup [(sN (.q 8 0) (.v 5)),.v 10]) (by decide +kernel) (kc hC (kc h2 (kc h3 (kc h4 kn))))
abbrev b_Op_move_MPost:Bk:={ vars:=[(0,3),(0,4),(0,1),(0,1),(1,1073741824),(0,1000000),(0,40),(0,40),(0,40),w60,w60,(1,20)],lens:=[(4,[([6],1)]),(5,[([7],1)]),(6,[([8],1)])],extV:=[(19,[(.agg [.i 8,.v 0,.v 1,.v 2,.v 3,.v 4,.i 0,.i 0,.emp])],(.c (.bool true))),
 (113,[(sN (.q 8 0) (.v 5)),.v 0,.v 1],(.i 0)),
 (161,[(sN (.q 8 0) (.v 5)),.v 0,.v 1,.v 2,.i 3,.v 4],(.tup [(sN (.q 8 7) (.v 5)),(.agg [.o 3,.v 9,.o 4]),.o 5,.i 0])),
 (116,[(sN (.q 8 7) (.v 5)),.v 0,.v 1,.v 3,(.agg [.o 3,.v 9,.o 4])],(.tup [(sN (.q 8 8) (.v 5)),.v 10,.o 6,.i 0])),
 (67,[(sN (.q 8 8) (.v 5)),.v 0,(.lit 2 [[.i 0,(.e [([9],-1),([10],1)])],[.i 6,.o 6]])],(.tup [(sN (.q 8 8) (.v 5)),.v 11]))] }
theorem Op_move_MPost {S:StD} {e:Int} (he:0≤e∧e≤3) {item:Int} (hitem:0≤item∧item≤4) {loc:Int} (hloc:0≤loc∧loc≤1) {dst:Int} (hdst:0≤dst∧dst≤1) {qty:Int} (hqty:1≤qty∧qty≤1073741824) (hd:Od S) {xq xv:Int} (b_xv:B60 xv) {xp:Int} {wt:Bool} {E1:List EntD} {ca:Int} (b_ca:B60 ca) {up:Int} {E2:List EntD} {f:Int} (f1:1≤f∧f≤20) {df:Int} (h_df:df=ca-xv) (hC:Ck 19 [opAv 8 e item loc dst qty 0 0] (.c (.bool true))) (h2:Ck 113 [S.av,.i e,.i item] (.i 0)) (h3:Ck 161 [S.av,.i e,.i item,.i loc,.i 3,.i qty] (.tup [(S.withEnts E1).av,Lay.av ⟨xq,xv,xp⟩,.c (.bool wt),.i 0])) (h4:Ck 116 [(S.withEnts E1).av,.i e,.i item,.i dst,Lay.av ⟨xq,xv,xp⟩] (.tup [(S.withEnts E2).av,.i ca,.i up,.i 0])) (h5:Ck 67 [(S.withEnts E2).av,.i e,.lit 2 (linsR [⟨0,df⟩,⟨6,up⟩])] (.tup [(S.withEnts E2).av,.i f])) :
 Ck 11 [S.av,opAv 8 e item loc dst qty 0 0] (.tup [S.av,.i f]):=by
 obtain⟨ρ,hρ⟩:=rh [e,item,loc,dst,qty,S.done,(S.receipts.length:Int),(S.sales.length:Int),(S.transits.length:Int),xv,ca,f]
 obtain rfl:=eqv hρ h_df [([9],-1),([10],1)]
 subst hρ
 let ev:=evS b_Op_move_MPost [e,item,loc,dst,qty,S.done,(S.receipts.length:Int),(S.sales.length:Int),(S.transits.length:Int),xv,ca,f] [.int .i64 S.entities,.int .i64 S.periods,.int .i64 S.done,.int .i64 xq,.int .i64 xp,.bool wt,.int .i64 up] (oS S [entsR E1,entsR E2]) BndL.nil.c.c.c.c.c.c.c.c.c.c.c.c FctL.nil LenL.nil.c.c.c (.nil)
 exact CK.way _ ev [(sN (.q 8 0) (.v 5)),(.agg [.i 8,.v 0,.v 1,.v 2,.v 3,.v 4,.i 0,.i 0,.emp])] (.tup [(sN (.q 8 0) (.v 5)),.v 11]) (by decide +kernel) (kc hC (kc h2 (kc h3 (kc h4 (kc h5 kn)))))
abbrev b_Op_move_MTurn:Bk:={ vars:=[(0,3),(0,4),(0,1),(0,1),(1,1073741824),(0,1000000),(0,40),(0,40),(0,40),w60,w60,(1,20)],lens:=[(4,[([6],1)]),(5,[([7],1)]),(6,[([8],1)])],extV:=[(19,[(.agg [.i 8,.v 0,.v 1,.v 2,.v 3,.v 4,.i 0,.i 0,.emp])],(.c (.bool true))),
 (113,[(sN (.q 8 0) (.v 5)),.v 0,.v 1],(.i 0)),
 (161,[(sN (.q 8 0) (.v 5)),.v 0,.v 1,.v 2,.i 3,.v 4],(.tup [(sN (.q 8 7) (.v 5)),(.agg [.o 3,.v 9,.o 4]),.o 5,.i 0])),
 (116,[(sN (.q 8 7) (.v 5)),.v 0,.v 1,.v 3,(.agg [.o 3,.v 9,.o 4])],(.tup [(sN (.q 8 8) (.v 5)),.v 10,.o 6,.i 0])),
 (67,[(sN (.q 8 8) (.v 5)),.v 0,(.lit 2 [[.i 0,(.e [([9],-1),([10],1)])],[.i 6,.o 6]])],(.tup [(sN (.q 8 9) (.v 5)),.i 0])),
 (68,[(sN (.q 8 9) (.v 5)),.v 0,.v 1,(.agg [.i 0,.i 0,.i 0,.i 0,.i 0,.i 0,.i 0,.i 0,.i 0,.i 0,(.e [([9],-1),([10],1)])])],(.tup [(sN (.q 8 9) (.v 5)),.v 11]))] }
theorem Op_move_MTurn {S:StD} {e:Int} (he:0≤e∧e≤3) {item:Int} (hitem:0≤item∧item≤4) {loc:Int} (hloc:0≤loc∧loc≤1) {dst:Int} (hdst:0≤dst∧dst≤1) {qty:Int} (hqty:1≤qty∧qty≤1073741824) (hd:Od S) {xq xv:Int} (b_xv:B60 xv) {xp:Int} {wt:Bool} {E1:List EntD} {ca:Int} (b_ca:B60 ca) {up:Int} {E2 E3:List EntD} {f:Int} (f1:1≤f∧f≤20) {df:Int} (h_df:df=ca-xv) (hC:Ck 19 [opAv 8 e item loc dst qty 0 0] (.c (.bool true))) (h2:Ck 113 [S.av,.i e,.i item] (.i 0)) (h3:Ck 161 [S.av,.i e,.i item,.i loc,.i 3,.i qty] (.tup [(S.withEnts E1).av,Lay.av ⟨xq,xv,xp⟩,.c (.bool wt),.i 0])) (h4:Ck 116 [(S.withEnts E1).av,.i e,.i item,.i dst,Lay.av ⟨xq,xv,xp⟩] (.tup [(S.withEnts E2).av,.i ca,.i up,.i 0])) (h5:Ck 67 [(S.withEnts E2).av,.i e,.lit 2 (linsR [⟨0,df⟩,⟨6,up⟩])] (.tup [(S.withEnts E3).av,.i 0])) (h6:Ck 68 [(S.withEnts E3).av,.i e,.i item,.agg (rowI [0,0,0,0,0,0,0,0,0,0,df])] (.tup [(S.withEnts E3).av,.i f])) :
 Ck 11 [S.av,opAv 8 e item loc dst qty 0 0] (.tup [S.av,.i f]):=by
 obtain⟨ρ,hρ⟩:=rh [e,item,loc,dst,qty,S.done,(S.receipts.length:Int),(S.sales.length:Int),(S.transits.length:Int),xv,ca,f]
 obtain rfl:=eqv hρ h_df [([9],-1),([10],1)]
 subst hρ
 let ev:=evS b_Op_move_MTurn [e,item,loc,dst,qty,S.done,(S.receipts.length:Int),(S.sales.length:Int),(S.transits.length:Int),xv,ca,f] [.int .i64 S.entities,.int .i64 S.periods,.int .i64 S.done,.int .i64 xq,.int .i64 xp,.bool wt,.int .i64 up] (oS S [entsR E1,entsR E2,entsR E3]) BndL.nil.c.c.c.c.c.c.c.c.c.c.c.c FctL.nil LenL.nil.c.c.c (.nil)
 exact CK.way _ ev [(sN (.q 8 0) (.v 5)),(.agg [.i 8,.v 0,.v 1,.v 2,.v 3,.v 4,.i 0,.i 0,.emp])] (.tup [(sN (.q 8 0) (.v 5)),.v 11]) (by decide +kernel) (kc hC (kc h2 (kc h3 (kc h4 (kc h5 (kc h6 kn))))))
abbrev b_Op_move_ok:Bk:={ vars:=[(0,3),(0,4),(0,1),(0,1),(1,1073741824),(0,1000000),(0,40),(0,40),(0,40),w60,w60],lens:=[(4,[([6],1)]),(5,[([7],1)]),(6,[([8],1)])],extV:=[(19,[(.agg [.i 8,.v 0,.v 1,.v 2,.v 3,.v 4,.i 0,.i 0,.emp])],(.c (.bool true))),
 (113,[(sN (.q 8 0) (.v 5)),.v 0,.v 1],(.i 0)),
 (161,[(sN (.q 8 0) (.v 5)),.v 0,.v 1,.v 2,.i 3,.v 4],(.tup [(sN (.q 8 7) (.v 5)),(.agg [.o 3,.v 9,.o 4]),.o 5,.i 0])),
 (116,[(sN (.q 8 7) (.v 5)),.v 0,.v 1,.v 3,(.agg [.o 3,.v 9,.o 4])],(.tup [(sN (.q 8 8) (.v 5)),.v 10,.o 6,.i 0])),
 (67,[(sN (.q 8 8) (.v 5)),.v 0,(.lit 2 [[.i 0,(.e [([9],-1),([10],1)])],[.i 6,.o 6]])],(.tup [(sN (.q 8 9) (.v 5)),.i 0])),
 (68,[(sN (.q 8 9) (.v 5)),.v 0,.v 1,(.agg [.i 0,.i 0,.i 0,.i 0,.i 0,.i 0,.i 0,.i 0,.i 0,.i 0,(.e [([9],-1),([10],1)])])],(.tup [(sN (.q 8 10) (.v 5)),.i 0]))] }
theorem Op_move_ok {S:StD} {e:Int} (he:0≤e∧e≤3) {item:Int} (hitem:0≤item∧item≤4) {loc:Int} (hloc:0≤loc∧loc≤1) {dst:Int} (hdst:0≤dst∧dst≤1) {qty:Int} (hqty:1≤qty∧qty≤1073741824) (hd:Od S) {xq xv:Int} (b_xv:B60 xv) {xp:Int} {wt:Bool} {E1:List EntD} {ca:Int} (b_ca:B60 ca) {up:Int} {E2 E3 E4:List EntD} {df:Int} (h_df:df=ca-xv) {d':Int} (h_d':d'=1+S.done) (hC:Ck 19 [opAv 8 e item loc dst qty 0 0] (.c (.bool true))) (h2:Ck 113 [S.av,.i e,.i item] (.i 0)) (h3:Ck 161 [S.av,.i e,.i item,.i loc,.i 3,.i qty] (.tup [(S.withEnts E1).av,Lay.av ⟨xq,xv,xp⟩,.c (.bool wt),.i 0])) (h4:Ck 116 [(S.withEnts E1).av,.i e,.i item,.i dst,Lay.av ⟨xq,xv,xp⟩] (.tup [(S.withEnts E2).av,.i ca,.i up,.i 0])) (h5:Ck 67 [(S.withEnts E2).av,.i e,.lit 2 (linsR [⟨0,df⟩,⟨6,up⟩])] (.tup [(S.withEnts E3).av,.i 0])) (h6:Ck 68 [(S.withEnts E3).av,.i e,.i item,.agg (rowI [0,0,0,0,0,0,0,0,0,0,df])] (.tup [(S.withEnts E4).av,.i 0])) :
 Ck 11 [S.av,opAv 8 e item loc dst qty 0 0] (.tup [S.avX (entsR E4) (rcsR S.receipts) (sasR S.sales) (trsR S.transits) d',.i 0]):=by
 obtain⟨ρ,hρ⟩:=rh [e,item,loc,dst,qty,S.done,(S.receipts.length:Int),(S.sales.length:Int),(S.transits.length:Int),xv,ca]
 obtain rfl:=eqv hρ h_df [([9],-1),([10],1)]
 obtain rfl:=eqv hρ h_d' [([],1),([5],1)]
 subst hρ
 let ev:=evS b_Op_move_ok [e,item,loc,dst,qty,S.done,(S.receipts.length:Int),(S.sales.length:Int),(S.transits.length:Int),xv,ca] [.int .i64 S.entities,.int .i64 S.periods,.int .i64 S.done,.int .i64 xq,.int .i64 xp,.bool wt,.int .i64 up] (oS S [entsR E1,entsR E2,entsR E3,entsR E4]) BndL.nil.c.c.c.c.c.c.c.c.c.c.c FctL.nil LenL.nil.c.c.c (.nil)
 exact CK.way _ ev [(sN (.q 8 0) (.v 5)),(.agg [.i 8,.v 0,.v 1,.v 2,.v 3,.v 4,.i 0,.i 0,.emp])] (.tup [(sN (.q 8 10) (.e [([],1),([5],1)])),.i 0]) (by decide +kernel) (kc hC (kc h2 (kc h3 (kc h4 (kc h5 (kc h6 kn))))))
end Go.Proofs.YtnalblnmplnhmaaGreat
