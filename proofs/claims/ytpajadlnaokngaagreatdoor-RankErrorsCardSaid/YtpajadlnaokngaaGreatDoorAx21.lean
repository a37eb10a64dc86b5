/- For every input (a slice of ints and three ints), refuterlaw16.RankErrors returns true, and its arguments read behind the call as they read before (the card RankErrorsCardSaid, the full form). Conditions: the package-level variables that the row lists hold, when the call begins, what the program's text lays (the card ties them to it); no bound on sizes. -/
import Derived.Test.YtpajadlnaokngaaGreatDoorAx20
import Derived.Test.YtpajadlnaokngaaGreatDoorCards
import Derived.Test.YtpajadlnaokngaaGreatDoorTie
import Derived.Lib.LaidIn
set_option linter.unusedVariables false
set_option linter.unusedSimpArgs false
set_option linter.unusedSectionVars false
namespace Go.Proofs.YtpajadlnaokngaaGreatDoor
open Go Go.Ax Go.Proofs Tryz
def cJ(n:Int):AV:=.agg [.bool false,.il 1 [.int .u32 n]]
def x6:AV:=.agg [.bool false,.nsl]
def lJ(n:Int):AV:=.agg [.int .u64 n,.int .u64 0,.int .u64 0,.int .u64 0,.int .u64 0]
def Lh:AV:=.agg [.il 12 [.agg [.int .i64 1,.str [],.int .i64 0,.int .i64 9,.nsl,.nsl,.nsl,.nsl,.int .i64 0,.int .i64 0,.str [],.nsl],.agg [.int .i64 3,.str [],.int .i64 0,.int .i64 0,.nsl,.nsl,.nsl,.il 1 [.int .i64 0,.int .i64 0],.int .i64 0,.int .i64 0,.str [],.nsl],.agg [.int .i64 0,.str [],.int .i64 0,.int .i64 0,.nsl,.nsl,.nsl,.nsl,.int .i64 0,.int .i64 7,.str [],.nsl],.agg [.int .i64 2,.str [],.int .i64 0,.int .i64 0,.il 1 [.int .i64 1,.int .i64 1],.nsl,.nsl,.il 1 [.int .i64 2,.int .i64 1],.int .i64 0,.int .i64 0,.str [],.nsl]]]
def dU:List Nat:=[173]
def dV:List Nat:=[11,46,49,115,114,174,113,15,44,43,13,17,14,19]
def dS(e:Nat × List AV × AV):Prop:=aZ prog gz e.1 e.2.1 e.2.2
theorem dX{e:Nat × List AV × AV}{t:List (Nat × List AV × AV)}(h:dS e)(ht:cQ prog gz t)(h1:sA (frz 30 [] []) e.2.1=some e.2.1:=by rfl)(h2:frz 30 [] [] e.2.2=some e.2.2:=by rfl):cQ prog gz (e::t):=cQ.cons h h1 h2 ht
set_option maxRecDepth 1000000
def HT:Nat × List AV × AV:=(15,[.int .i64 1],(cJ 1))
theorem D7:dS HT:=a8 dB dT cY.nil cQ.nil dU dV [] 500 rfl (by kernel_rfl)
def GZ:Nat × List AV × AV:=(51,[(cJ 1),x6],.int .i64 1)
theorem C8:dS GZ:=a8 dB dT cY.nil cQ.nil dU dV [] 500 rfl (by kernel_rfl)
def IC:Nat × List AV × AV:=(50,[(cJ 1)],.int .i64 1)
theorem Dl:dS IC:=a8 dB dT cY.nil cQ.nil dU dV [] 500 rfl (by kernel_rfl)
def Hf:Nat × List AV × AV:=(174,[(cJ 1),(cJ 1)],.tup [(cJ 1),.int .i64 0])
theorem Dc:dS Hf:=a8 dB dT cY.nil cQ.nil dU dV [] 500 rfl (by kernel_rfl)
def H3:Nat × List AV × AV:=(115,[x6,(cJ 1)],.tup [(cJ 1),.int .i64 0])
theorem D9:dS H3:=a8 dB dT cY.nil cQ.nil dU dV [] 500 rfl (by kernel_rfl)
def Gm:Nat × List AV × AV:=(15,[.int .i64 10],(cJ 10))
theorem Da:dS Gm:=a8 dB dT cY.nil cQ.nil dU dV [] 500 rfl (by kernel_rfl)
def HD:Nat × List AV × AV:=(51,[(cJ 10),x6],.int .i64 1)
theorem Dp:dS HD:=a8 dB dT cY.nil cQ.nil dU dV [] 500 rfl (by kernel_rfl)
def HM:Nat × List AV × AV:=(50,[(cJ 10)],.int .i64 1)
theorem DQ:dS HM:=a8 dB dT cY.nil cQ.nil dU dV [] 500 rfl (by kernel_rfl)
def Gs:Nat × List AV × AV:=(174,[(cJ 10),(cJ 1)],.tup [(cJ 10),.int .i64 0])
theorem ED:dS Gs:=a8 dB dT cY.nil cQ.nil dU dV [] 500 rfl (by kernel_rfl)
def HH:Nat × List AV × AV:=(115,[x6,(cJ 10)],.tup [(cJ 10),.int .i64 0])
theorem C7:dS HH:=a8 dB dT cY.nil cQ.nil dU dV [] 500 rfl (by kernel_rfl)
def E6:Nat × List AV × AV:=(15,[.int .i64 4],(cJ 4))
theorem B1:dS E6:=a8 dB dT cY.nil cQ.nil dU dV [] 500 rfl (by kernel_rfl)
def Ef:Nat × List AV × AV:=(174,[(cJ 4),(cJ 10)],.tup [(cJ 40),.int .i64 0])
theorem Cg:dS Ef:=a8 dB dT cY.nil cQ.nil dU dV [] 500 rfl (by kernel_rfl)
def EV:Nat × List AV × AV:=(115,[(cJ 1),(cJ 40)],.tup [(cJ 41),.int .i64 0])
theorem Bj:dS EV:=a8 dB dT cY.nil cQ.nil dU dV [] 500 rfl (by kernel_rfl)
def Ep:Nat × List AV × AV:=(15,[.int .i64 2],(cJ 2))
theorem Cq:dS Ep:=a8 dB dT cY.nil cQ.nil dU dV [] 500 rfl (by kernel_rfl)
def EI:Nat × List AV × AV:=(174,[(cJ 2),(cJ 1)],.tup [(cJ 2),.int .i64 0])
theorem BJ:dS EI:=a8 dB dT cY.nil cQ.nil dU dV [] 500 rfl (by kernel_rfl)
def EJ:Nat × List AV × AV:=(115,[(cJ 41),(cJ 2)],.tup [(cJ 43),.int .i64 0])
theorem CX:dS EJ:=a8 dB dT cY.nil cQ.nil dU dV [] 500 rfl (by kernel_rfl)
def FY:Nat × List AV × AV:=(115,[x6,x6],.tup [.agg [.bool false,.il 1 []],.int .i64 0])
theorem Bg:dS FY:=a8 dB dT cY.nil cQ.nil dU dV [] 500 rfl (by kernel_rfl)
def EZ:Nat × List AV × AV:=(51,[x6,x6],.int .i64 0)
theorem Bh:dS EZ:=a8 dB dT cY.nil cQ.nil dU dV [] 500 rfl (by kernel_rfl)
def EH:Nat × List AV × AV:=(50,[x6],.int .i64 0)
theorem BI:dS EH:=a8 dB dT cY.nil cQ.nil dU dV [] 500 rfl (by kernel_rfl)
def EP:Nat × List AV × AV:=(115,[.agg [.bool false,.il 1 []],(cJ 40)],.tup [(cJ 40),.int .i64 0])
theorem C1:dS EP:=a8 dB dT cY.nil cQ.nil dU dV [] 500 rfl (by kernel_rfl)
def Fa:Nat × List AV × AV:=(115,[(cJ 40),(cJ 2)],.tup [(cJ 42),.int .i64 0])
theorem Cl:dS Fa:=a8 dB dT cY.nil cQ.nil dU dV [] 500 rfl (by kernel_rfl)
def FS:Nat × List AV × AV:=(15,[.int .i64 100],(cJ 100))
theorem B0:dS FS:=a8 dB dT cY.nil cQ.nil dU dV [] 500 rfl (by kernel_rfl)
def FV:Nat × List AV × AV:=(174,[(cJ 1),(cJ 10)],.tup [(cJ 10),.int .i64 0])
theorem Bk:dS FV:=a8 dB dT cY.nil cQ.nil dU dV [] 500 rfl (by kernel_rfl)
def Et:Nat × List AV × AV:=(174,[(cJ 10),(cJ 10)],.tup [(cJ 100),.int .i64 0])
theorem BY:dS Et:=a8 dB dT cY.nil cQ.nil dU dV [] 500 rfl (by kernel_rfl)
def Ek:Nat × List AV × AV:=(174,[(cJ 1),(cJ 100)],.tup [(cJ 100),.int .i64 0])
theorem Co:dS Ek:=a8 dB dT cY.nil cQ.nil dU dV [] 500 rfl (by kernel_rfl)
def EF:Nat × List AV × AV:=(115,[(cJ 1),(cJ 100)],.tup [(cJ 101),.int .i64 0])
theorem CQ:dS EF:=a8 dB dT cY.nil cQ.nil dU dV [] 500 rfl (by kernel_rfl)
def FN:Nat × List AV × AV:=(51,[(cJ 100),x6],.int .i64 1)
theorem Cf:dS FN:=a8 dB dT cY.nil cQ.nil dU dV [] 500 rfl (by kernel_rfl)
def Ey:Nat × List AV × AV:=(50,[(cJ 100)],.int .i64 1)
theorem CD:dS Ey:=a8 dB dT cY.nil cQ.nil dU dV [] 500 rfl (by kernel_rfl)
def EO:Nat × List AV × AV:=(51,[(cJ 100),(cJ 101)],.int .i64 (-1))
theorem CR:dS EO:=a8 dB dT cY.nil cQ.nil dU dV [] 500 rfl (by kernel_rfl)
def EL:Nat × List AV × AV:=(51,[(cJ 100),(cJ 1)],.int .i64 1)
theorem BS:dS EL:=a8 dB dT cY.nil cQ.nil dU dV [] 500 rfl (by kernel_rfl)
def E8:Nat × List AV × AV:=(115,[(cJ 100),.agg [.bool true,.il 1 [.int .u32 1]]],.tup [(cJ 99),.int .i64 0])
theorem Be:dS E8:=a8 dB dT cY.nil cQ.nil dU dV [] 500 rfl (by kernel_rfl)
def FB:Nat × List AV × AV:=(114,[(cJ 100),(cJ 1)],.tup [(cJ 99),.int .i64 0])
theorem B2:dS FB:=a8 dB dT cY.nil cQ.nil dU dV [] 500 rfl (by kernel_rfl)
def EU:Nat × List AV × AV:=(113,[(cJ 99),(cJ 10)],.tup [(cJ 9),(cJ 9),.int .i64 0])
theorem CA:dS EU:=a8 dB dT cY.nil cQ.nil dU dV [] 500 rfl (by kernel_rfl)
def Ec:Nat × List AV × AV:=(113,[(cJ 9),(cJ 1)],.tup [(cJ 9),.agg [.bool false,.il 1 []],.int .i64 0])
theorem CF:dS Ec:=a8 dB dT cY.nil cQ.nil dU dV [] 500 rfl (by kernel_rfl)
def ER:Nat × List AV × AV:=(15,[.int .i64 101],(cJ 101))
theorem By:dS ER:=a8 dB dT cY.nil cQ.nil dU dV [] 500 rfl (by kernel_rfl)
def FH:Nat × List AV × AV:=(51,[(cJ 101),x6],.int .i64 1)
theorem BO:dS FH:=a8 dB dT cY.nil cQ.nil dU dV [] 500 rfl (by kernel_rfl)
def E1:Nat × List AV × AV:=(50,[(cJ 101)],.int .i64 1)
theorem Bz:dS E1:=a8 dB dT cY.nil cQ.nil dU dV [] 500 rfl (by kernel_rfl)
def FP:Nat × List AV × AV:=(51,[(cJ 101),(cJ 101)],.int .i64 0)
theorem Cw:dS FP:=a8 dB dT cY.nil cQ.nil dU dV [] 500 rfl (by kernel_rfl)
set_option maxRecDepth 1000000
def HA:Nat × List AV × AV:=(11,[Lh],.int .i64 0)
theorem Dy:dS HA:=a8 dB dT cY.nil cQ.nil dU dV [] 500 rfl (by kernel_rfl)
set_option maxRecDepth 1000000
def IN:List (Nat × List AV × AV):=HT::GZ::IC::Hf::H3::Gm::HD::HM::Gs::HH::E6::Ef::EV::Ep::EI::EJ::FY::EZ::EH::EP::Fa::FS::FV::Et::Ek::EF::FN::Ey::EO::EL::E8::FB::EU::Ec::ER::FH::E1::FP::HA::[]
theorem ES:cQ prog gz IN:=(dX D7 (dX C8 (dX Dl (dX Dc (dX D9 (dX Da (dX Dp (dX DQ (dX ED (dX C7 (dX B1 (dX Cg (dX Bj (dX Cq (dX BJ (dX CX (dX Bg (dX Bh (dX BI (dX C1 (dX Cl (dX B0 (dX Bk (dX BY (dX Co (dX CQ (dX Cf (dX CD (dX CR (dX BS (dX Be (dX B2 (dX CA (dX CF (dX By (dX BO (dX Bz (dX Cw (dX Dy cQ.nil)))))))))))))))))))))))))))))))))))))))
def Hh:Nat × List AV × AV:=(49,[Lh],.tup [(cJ 101),.int .i64 0])
theorem DI:dS Hh:=a8 dB dT cY.nil ES dU dV [] 500 rfl (by kernel_rfl)
set_option maxRecDepth 1000000
def Hv:Nat × List AV × AV:=(122,[(lJ 2),(lJ 1)],(lJ 2))
theorem C4:dS Hv:=a8 dB dT cY.nil cQ.nil dU dV [] 500 rfl (by kernel_rfl)
def HL:Nat × List AV × AV:=(122,[(lJ 1),(lJ 2)],(lJ 2))
theorem D5:dS HL:=a8 dB dT cY.nil cQ.nil dU dV [] 500 rfl (by kernel_rfl)
def Gq:Nat × List AV × AV:=(122,[(lJ 2),(lJ 2)],(lJ 4))
theorem Dg:dS Gq:=a8 dB dT cY.nil cQ.nil dU dV [] 500 rfl (by kernel_rfl)
def He:Nat × List AV × AV:=(122,[(lJ 2),(lJ 4)],(lJ 8))
theorem DT:dS He:=a8 dB dT cY.nil cQ.nil dU dV [] 500 rfl (by kernel_rfl)
def IJ:Nat × List AV × AV:=(122,[(lJ 10),(lJ 1)],(lJ 10))
theorem Dq:dS IJ:=a8 dB dT cY.nil cQ.nil dU dV [] 500 rfl (by kernel_rfl)
def HI:Nat × List AV × AV:=(122,[(lJ 1),(lJ 1)],(lJ 1))
theorem DX:dS HI:=a8 dB dT cY.nil cQ.nil dU dV [] 500 rfl (by kernel_rfl)
def H2:Nat × List AV × AV:=(122,[(lJ 4),(lJ 1)],(lJ 4))
theorem DR:dS H2:=a8 dB dT cY.nil cQ.nil dU dV [] 500 rfl (by kernel_rfl)
set_option maxRecDepth 1000000
def MM:List (Nat × List AV × AV):=Hh::Hv::HL::Gq::He::IJ::HI::H2::IN
theorem Lo:cQ prog gz MM:=(dX DI (dX C4 (dX D5 (dX Dg (dX DT (dX Dq (dX DX (dX DR ES))))))))
theorem Ib:aZ prog gz 12 [] (.bool true):=a8 dB dT cY.nil Lo dU dV [] 500 rfl (by kernel_rfl)
theorem JK(l:List Int)(at_ how n:Int)(hl:∀x∈l,i64 x)(ha:i64 at_)(hh:i64 how)(hn:i64 n):aZ prog gz 4 [.il 1 (aX l),.int .i64 at_,.int .i64 how,.int .i64 n] (.bool true):=HU l at_ how n hl ha hh hn Ib
end Go.Proofs.YtpajadlnaokngaaGreatDoor
namespace Go.Proofs.YtpajadlnaokngaaGreatDoor.RankErrors
open Go.ChangeShapes Go.WideShapes Go.ChangeAt Go.RowKit Go.Lib Go.Ax
set_option maxHeartbeats 16000000
theorem own:ownKnob Tryz.prog.godebug=none:=by kernel_rfl
theorem laidOut:laidOutB Tryz.prog=true:=by kernel_rfl
theorem cells3:Tryz.prog.cellsOf 3=1:=by kernel_rfl
theorem gNameP:Tryz.prog.globalNamed "internal/strconv.uint64pow10" = some 0:=by kernel_rfl
theorem gNameB:Tryz.prog.globalNamed "math/bits.deBruijn32tab" = some 2:=by kernel_rfl
theorem gNameC:Tryz.prog.globalNamed "math/bits.deBruijn64tab" = some 3:=by kernel_rfl
theorem gTypeP:(Tryz.prog.globals[0]?).map (·.type)=some 383:=by kernel_rfl
theorem gTypeB:(Tryz.prog.globals[2]?).map (·.type)=some 395:=by kernel_rfl
theorem gTypeC:(Tryz.prog.globals[3]?).map (·.type)=some 396:=by kernel_rfl
theorem cellsU:Tryz.prog.cellsOf 52=1:=by kernel_rfl
theorem cellsB:Tryz.prog.cellsOf 5=1:=by kernel_rfl
theorem cellsP:Tryz.prog.cellsOf 383=20:=by kernel_rfl
theorem cellsQ:Tryz.prog.cellsOf 395=32:=by kernel_rfl
theorem cellsR:Tryz.prog.cellsOf 396=64:=by kernel_rfl
def pows:List Int:=[1,10,100,1000,10000,100000,1000000,10000000,100000000,1000000000,10000000000,100000000000,1000000000000,10000000000000,100000000000000,1000000000000000,10000000000000000,100000000000000000,1000000000000000000,10000000000000000000]
def tabB:List Int:=[0,1,28,2,29,14,24,3,30,22,20,15,25,17,4,8,31,27,13,23,21,19,16,7,26,12,18,6,11,5,10,9]
def tabC:List Int:=[0,1,56,2,57,49,28,3,61,58,42,50,38,29,17,4,62,47,59,36,45,43,51,22,53,39,33,30,24,18,12,5,63,55,48,27,60,41,37,16,46,35,44,21,52,32,23,11,54,26,40,15,34,20,31,10,25,14,19,9,13,8,7,6]
theorem vars{W:World}(h:laidMetH Tryz.prog Rows.rankErrorsRow.laid W):∀p∈gz,VR (fun _=>⟨0,0,0⟩) (fun _=>False) (OX (fun _=>False) (fun _=>⟨0,0,0⟩) []) W (.ip p.2) (.pointer (some ⟨p.1,0,none⟩)):=by
 have h:laidMet Tryz.prog Rows.rankErrorsRow.laid W:=h
 have hP:=tabIs_of_head (k:=.u64) (zs:=pows) gNameP gTypeP Tryz.underlying383 Tryz.underlying52 cellsU cellsP h.tail.tail
 have hB:=tabIs_of_head (k:=.u8) (zs:=tabB) gNameB gTypeB Tryz.underlying395 Tryz.underlying5 cellsB cellsQ h
 have hC:=tabIs_of_head (k:=.u8) (zs:=tabC) gNameC gTypeC Tryz.underlying396 Tryz.underlying5 cellsB cellsR h.tail
 intro p hp
 simp only[gz,List.mem_cons,List.not_mem_nil,or_false] at hp
 rcases hp with rfl|rfl|rfl
 ·exact qT gNameP hP
 ·exact qT gNameB hB
 ·exact qT gNameC hC
set_option maxRecDepth 100000 in
theorem contract(H:Type)(enc:TypeId × Value→H)(W:World)(base:Nat)(args:Array Value)(ds gs:List (DataW H))(before:List MemPlace)
  (hval:∀(j:Nat) t v,Tryz.f4.params[j]? = some t→args[j]? = some v→Value.okWide Tryz.prog W .any base t v)
  (hW:DataW.Whole enc Tryz.prog Tryz.f4.params.toList Rows.rankErrorsSpec.vars false W args.toList ds gs before) (hL:laidMetH Tryz.prog Rows.rankErrorsRow.laid W) :
  Calls Tryz.prog 4 args W fun e W'=>∃v,e = .returned v∧Rows.rankErrorsSpec.post enc Tryz.prog Tryz.f4 false true false false W args v W':=by
 have hW':=hW
 obtain⟨p,q,hA0,hV,rfl,hfz,hnd⟩:=hW
 have hA:DataW.TrodAll enc Tryz.prog W 0 (fun _=>true) true Tryz.f4.params.toList args.toList ds p:=hA0
 rw[Tryz.params4] at hA hval
 obtain⟨v0,vs0,d0,ds0,p0,q0,hargs,rfl,rfl,h0,r0⟩:=trodAll_cons hA
 obtain⟨v1,vs1,d1,ds1,p1,q1,rfl,rfl,rfl,h1,r1⟩:=trodAll_cons r0
 obtain⟨v2,vs2,d2,ds2,p2,q2,rfl,rfl,rfl,h2,r2⟩:=trodAll_cons r1
 obtain⟨v3,vs3,d3,ds3,p3,q3,rfl,rfl,rfl,h3,r3⟩:=trodAll_cons r2
 obtain⟨rfl,rfl,rfl⟩:=trodAll_nil r3
 obtain rfl:args = #[v0,v1,v2,v3]:=by cases args;simp_all
 obtain⟨rfl,rfl⟩:=trodVars_none hV
 have h0k:=h0
 obtain⟨x0,b0,e0⟩:=DV Tryz.underlying22 Tryz.underlying3 cells3 (hval 0 22 v0 rfl rfl) h0
 have h1k:=h1
 obtain⟨x1,rfl,rfl,rfl,hwf1⟩:=open_int Tryz.underlying3 (hval 1 3 v1 rfl rfl) h1
 have b1:i64 x1:=by
  have e1:IntKind.i64.min = -9223372036854775808:=rfl
  have e2:IntKind.i64.max=9223372036854775807:=rfl
  simp[Lit.wf,e1,e2] at hwf1
  unfold i64
  omega
 have h2k:=h2
 obtain⟨x2,rfl,rfl,rfl,hwf2⟩:=open_int Tryz.underlying3 (hval 2 3 v2 rfl rfl) h2
 have b2:i64 x2:=by
  have e1:IntKind.i64.min = -9223372036854775808:=rfl
  have e2:IntKind.i64.max=9223372036854775807:=rfl
  simp[Lit.wf,e1,e2] at hwf2
  unfold i64
  omega
 have h3k:=h3
 obtain⟨x3,rfl,rfl,rfl,hwf3⟩:=open_int Tryz.underlying3 (hval 3 3 v3 rfl rfl) h3
 have b3:i64 x3:=by
  have e1:IntKind.i64.min = -9223372036854775808:=rfl
  have e2:IntKind.i64.max=9223372036854775807:=rfl
  simp[Lit.wf,e1,e2] at hwf3
  unfold i64
  omega
 clear hA0
 refine((JK x0 x1 x2 x3 b0 b1 b2 b3).callsG W [v0,.int .i64 x1,.int .i64 x2,.int .i64 x3] (vars hL) (.cons e0 (.cons (.int _ _) (.cons (.int _ _) (.cons (.int _ _) .nil))))).mono ?_
 rintro e W' ⟨rfl,hk⟩
 refine⟨_,rfl,_,_,_,[],p0++([]++([]++([]++[]))),[],hW', ?_, ?_, ?_,hk.frame _,fun h=>by cases h⟩
 ·exact trodAll_cons_mk (shut_bool Tryz.underlying4 _) trodAll_mk0
 ·exact trodAll_cons_mk (yU.trod laidOut (by kernel_rfl) (of_decide_eq_true (by kernel_rfl)) h0k hk) (trodAll_cons_mk (yU.trod laidOut (by kernel_rfl) (of_decide_eq_true (by kernel_rfl)) h1k hk) (trodAll_cons_mk (yU.trod laidOut (by kernel_rfl) (of_decide_eq_true (by kernel_rfl)) h2k hk) (trodAll_cons_mk (yU.trod laidOut (by kernel_rfl) (of_decide_eq_true (by kernel_rfl)) h3k hk) trodAll_mk0)))
 ·rfl
noncomputable def laidWorld(os:Os):World:=
 let w0:=World.holding Tryz.prog os ⟨#[],#[],[]⟩
 let put (h:Array Obj) (g:Nat) (cs:Array Value):Array Obj:=h.modify g fun
  | .cells _ t frozen=>.cells cs t frozen
  | o=>o
 let nums (d:DataW Unit):Array Value:=match d with
  | .agg ds=>(ds.map fun
   | .lit (.int k n)=>Value.int k n
   | _=>.bool false).toArray
  | _=>#[]
 let h1:=put w0.heap 0 (nums Rows.laid_internal_strconv_uint64pow10)
 let h2:=put h1 2 (nums Rows.laid_math_bits_deBruijn32tab)
 let h3:=put h2 3 (nums Rows.laid_math_bits_deBruijn64tab)
 { w0 with heap:=h3 }
theorem laid_met(os:Os)(args:Array Value):laidMet Tryz.prog Rows.rankErrorsRow.laid ((laidWorld os).forCall (fun _ _=>0) ⟨#[],args,[]⟩).memory:=
 (LaidIn.of_run (l:=Rows.rankErrorsRow.laid) [0,2,3] 8 (by kernel_rfl) (by kernel_rfl) (by kernel_rfl) (by kernel_rfl)).met
noncomputable abbrev wargs:Array Value:=#[.slice none 0 0,.int .i64 0,.int .i64 0,.int .i64 0]
theorem reads(os:Os){H:Type}(enc:TypeId × Value→H):∃places,DataW.whole enc Tryz.prog ((laidWorld os).forCall (fun _ _=>0) ⟨#[],wargs,[]⟩).memory Tryz.f4.params.toList Rows.rankErrorsSpec.vars false wargs.toList 8=some ([.nil,.lit (.int .i64 0),.lit (.int .i64 0),.lit (.int .i64 0)],[],places):=
 ⟨[],by kernel_rfl⟩
set_option maxRecDepth 100000 in
theorem lifted(os:Os)(started:os.Started)(H:Type)(enc:TypeId × Value→H)(F:Stop.Interp) :
  ReturnsInHanded {} Tryz.checked os 4 .any ((OpenSpec.ofChange Rows.rankErrorsSpec).preRow enc Tryz.prog Tryz.f4 Rows.rankErrorsRow.domain false Rows.rankErrorsRow.laid) (((OpenSpec.ofChange Rows.rankErrorsSpec).at F).post enc Tryz.prog Tryz.f4 false true false false):=by
 obtain⟨places,hx⟩:=reads os enc
 refine returnsInHanded_of_row (C:=Tryz.checked) (s:=OpenSpec.ofChange Rows.rankErrorsSpec) own started (by kernel_rfl) Tryz.func4
  (witness_row_atRef (enc:=enc) (C:=Tryz.checked) false (laidWorld os) wargs rfl (by kernel_rfl) (by kernel_rfl) (by kernel_rfl)
   (OpenSpec.preRow_of_cond 8 hx (by kernel_rfl) (fun k hk=>by cases hk) (by kernel_rfl) (laid_met os _))) ?_
 intro W base args ds gs before hval hW _ _ _ hL _ _
 exact contract H enc W base args ds gs before hval hW hL
theorem said:Rows.RankErrorsSaid:=
 OpenClaim.holds_of_cond 4 Tryz.f4 rfl rfl rfl rfl rfl rfl rfl ⟨rfl,rfl,rfl,rfl,rfl⟩ rfl rfl rfl rfl rfl (by as_aux_lemma=>kernel_rfl) Tryz.func4 (by unfold joinedFacts;simp only[Bool.and_eq_true];(repeat' apply And.intro);all_goals (as_aux_lemma=>kernel_rfl))
  (of_decide_eq_true (by as_aux_lemma=>kernel_rfl)) (by unfold Func.isWrapper;first|(rw[if_pos (by as_aux_lemma=>decide +kernel)];as_aux_lemma=>kernel_rfl)|(rw[if_neg (by as_aux_lemma=>decide +kernel)];exact⟨rfl,rfl⟩))
  (fun os started H enc _ F=>by rw[OpenClaim.pre_eq_preRow];exact lifted os started H enc F)
theorem plain(f:FuncId)(fn:Func)(hf:Tryz.pinned.checked.prog.funcNamed "refuter/refuterlaw16.RankErrors" = some f)(hfn:Tryz.pinned.checked.prog.funcs[f]? = some fn) :
  true=Tryz.pinned.checked.prog.looks []∧∀(j:Nat) t,fn.params[j]? = some t→Tryz.pinned.checked.prog.wantsStandIn t=false:=by
 obtain rfl:f=4:=Option.some.inj ((show Tryz.prog.funcNamed "refuter/refuterlaw16.RankErrors" = some 4 by kernel_rfl).symm.trans hf) |>.symm
 obtain rfl:fn=Tryz.f4:=(Option.some.inj (Tryz.func4.symm.trans hfn)).symm
 refine⟨by kernel_rfl,fun j t ht=>?_⟩
 rw[Tryz.params4] at ht
 have hTI:Tryz.prog.wantsStandIn 22=false:=by kernel_rfl
 have hTi:Tryz.prog.wantsStandIn 3=false:=by kernel_rfl
 have hm:=Array.mem_of_getElem? ht
 simp at hm
 repeat' (first|(rw[(hm:t=22)];exact hTI)|(rw[(hm:t=3)];exact hTi)|rcases hm with hm|hm)
theorem card:Rows.RankErrorsCardSaid:=
 Claim7.holds_tied_plain_at .later [] _ _ _ _ said (fun _ h=>by cases h) (by kernel_rfl) (fun _ h=>by cases h) rankErrors_row_tie rfl ⟨rfl,rfl⟩ (by kernel_rfl) rfl plain (by kernel_rfl)
end Go.Proofs.YtpajadlnaokngaaGreatDoor.RankErrors
