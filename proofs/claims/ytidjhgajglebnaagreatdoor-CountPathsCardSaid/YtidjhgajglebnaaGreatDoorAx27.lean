/- For every input (a slice of ints and three ints), refuterlaw15.CountPaths returns true, and its arguments read behind the call as they read before (the card CountPathsCardSaid, the full form). Conditions: the package-level variables that the row lists hold, when the call begins, what the program's text lays (the card ties them to it); no bound on sizes. -/
import Derived.Test.YtidjhgajglebnaaGreatDoorAx26
import Derived.Test.YtidjhgajglebnaaGreatDoorCards
import Derived.Test.YtidjhgajglebnaaGreatDoorTie
import Derived.Lib.LaidIn
set_option linter.unusedVariables false
set_option linter.unusedSimpArgs false
namespace Go.Proofs.YtidjhgajglebnaaGreatDoor
open Go Go.Ax Go.Proofs Tryz
set_option maxRecDepth 100000
set_option maxHeartbeats 16000000
def cX(n:Int):AV:=.il 1 [.int .u32 n]
def eG(a b:AV):AV:=.agg [.bool false,a,.bool false,b]
def PP:AV:=.agg [.il 12 [.agg [.int .i64 0,.str [],.int .i64 0,.int .i64 0,.nsl,.nsl,.nsl,.nsl,.int .i64 1,.int .i64 1,.str [],.nsl],.agg [.int .i64 1,.str [],.int .i64 0,.int .i64 2,.nsl,.nsl,.nsl,.nsl,.int .i64 0,.int .i64 0,.str [],.nsl],.agg [.int .i64 2,.str [],.int .i64 0,.int .i64 0,.il 1 [.int .i64 1,.int .i64 3],.nsl,.nsl,.il 1 [.int .i64 0,.int .i64 1],.int .i64 0,.int .i64 0,.str [],.nsl]]]
def k7:List Nat:=[163]
def k9:List Nat:=[49,9,22,50,51,11,52,96,98,206,207,172,19]
def kN(e:Nat × List AV × AV):Prop:=aT prog gz e.1 e.2.1 e.2.2
theorem lL{e:Nat × List AV × AV}{t:List (Nat × List AV × AV)}(h:kN e)(ht:gA prog gz t)(h1:Bz (frz 30 [] []) e.2.1=some e.2.1:=by rfl)(h2:frz 30 [] [] e.2.2=some e.2.2:=by rfl):gA prog gz (e::t):=gA.cons h h1 h2 ht
set_option maxRecDepth 1000000
def Tu:Nat × List AV × AV:=(19,[PP],.int .i64 0)
theorem N0:kN Tu:=c7 dQ gA.nil k7 k9 80 rfl (by kernel_rfl)
def UD:Nat × List AV × AV:=(206,[.int .i64 1,.int .i64 1],.tup [(eG (cX 1) (cX 1)),.int .i64 0])
theorem OY:kN UD:=c7 dQ gA.nil k7 k9 80 rfl (by kernel_rfl)
def UI:Nat × List AV × AV:=(206,[.int .i64 1,.int .i64 4],.tup [(eG (cX 1) (cX 4)),.int .i64 0])
theorem OV:kN UI:=c7 dQ gA.nil k7 k9 80 rfl (by kernel_rfl)
def T4:Nat × List AV × AV:=(206,[.int .i64 3,.int .i64 4],.tup [(eG (cX 3) (cX 4)),.int .i64 0])
theorem OC:kN T4:=c7 dQ gA.nil k7 k9 80 rfl (by kernel_rfl)
def UB:Nat × List AV × AV:=(206,[.int .i64 1,.int .i64 3],.tup [(eG (cX 1) (cX 3)),.int .i64 0])
theorem NY:kN UB:=c7 dQ gA.nil k7 k9 80 rfl (by kernel_rfl)
def Tj:Nat × List AV × AV:=(11,[.agg [.bool false,(cX 4)]],.str [52])
theorem Nh:kN Tj:=c7 dQ gA.nil k7 k9 80 rfl (by kernel_rfl)
def UO:Nat × List AV × AV:=(11,[.agg [.bool false,(cX 1)]],.str [49])
theorem NH:kN UO:=c7 dQ gA.nil k7 k9 80 rfl (by kernel_rfl)
def UR:Nat × List AV × AV:=(11,[.agg [.bool false,(cX 3)]],.str [51])
theorem Mm:kN UR:=c7 dQ gA.nil k7 k9 80 rfl (by kernel_rfl)
def Tx:Nat × List AV × AV:=(52,[(eG (cX 1) (cX 4))],.str [49,47,52])
theorem Oe:kN Tx:=c7 dQ gA.nil k7 k9 80 rfl (by kernel_rfl)
def Tp:Nat × List AV × AV:=(49,[],PP)
theorem NM:kN Tp:=c7 dQ gA.nil k7 k9 80 rfl (by kernel_rfl)
set_option maxRecDepth 1000000
def UP:Nat × List AV × AV:=(207,[(eG (cX 1) (cX 1)),(eG (cX 1) (cX 4))],.tup [(eG (cX 1) (cX 4)),.int .i64 0])
theorem OZ:kN UP:=c7 dQ gA.nil k7 k9 80 rfl (by kernel_rfl)
def UT:Nat × List AV × AV:=(207,[(eG (cX 1) (cX 1)),(eG (cX 3) (cX 4))],.tup [(eG (cX 3) (cX 4)),.int .i64 0])
theorem NR:kN UT:=c7 dQ gA.nil k7 k9 80 rfl (by kernel_rfl)
def T3:Nat × List AV × AV:=(207,[(eG (cX 3) (cX 4)),(eG (cX 1) (cX 3))],.tup [(eG (cX 1) (cX 4)),.int .i64 0])
theorem Nr:kN T3:=c7 dQ gA.nil k7 k9 80 rfl (by kernel_rfl)
def Tv:Nat × List AV × AV:=(207,[(eG .nsl .nsl),(eG (cX 1) (cX 4))],.tup [(eG .nsl (cX 1)),.int .i64 0])
theorem M4:kN Tv:=c7 dQ gA.nil k7 k9 80 rfl (by kernel_rfl)
def Tg:Nat × List AV × AV:=(207,[(eG .nsl (cX 1)),(eG (cX 1) (cX 1))],.tup [(eG .nsl (cX 1)),.int .i64 0])
theorem NS:kN Tg:=c7 dQ gA.nil k7 k9 80 rfl (by kernel_rfl)
def US:Nat × List AV × AV:=(207,[(eG (cX 1) (cX 4)),(eG (cX 1) (cX 1))],.tup [(eG (cX 1) (cX 4)),.int .i64 0])
theorem Nt:kN US:=c7 dQ gA.nil k7 k9 80 rfl (by kernel_rfl)
set_option maxRecDepth 1000000
def UA:Nat × List AV × AV:=(207,[(eG .nsl .nsl),(eG (cX 3) (cX 4))],.tup [(eG .nsl (cX 1)),.int .i64 0])
theorem Nq:kN UA:=c7 dQ gA.nil k7 k9 80 rfl (by kernel_rfl)
def UQ:Nat × List AV × AV:=(207,[(eG .nsl .nsl),(eG (cX 1) (cX 1))],.tup [(eG .nsl (cX 1)),.int .i64 0])
theorem N8:kN UQ:=c7 dQ gA.nil k7 k9 80 rfl (by kernel_rfl)
def Tl:Nat × List AV × AV:=(207,[(eG (cX 1) (cX 1)),(eG (cX 1) (cX 1))],.tup [(eG (cX 1) (cX 1)),.int .i64 0])
theorem OE:kN Tl:=c7 dQ gA.nil k7 k9 80 rfl (by kernel_rfl)
def UM:Nat × List AV × AV:=(207,[(eG .nsl (cX 1)),(eG .nsl (cX 1))],.tup [(eG .nsl (cX 1)),.int .i64 0])
theorem Nl:kN UM:=c7 dQ gA.nil k7 k9 80 rfl (by kernel_rfl)
def Th:Nat × List AV × AV:=(207,[(eG (cX 3) (cX 4)),(eG .nsl (cX 1))],.tup [(eG .nsl (cX 1)),.int .i64 0])
theorem Mx:kN Th:=c7 dQ gA.nil k7 k9 80 rfl (by kernel_rfl)
set_option maxRecDepth 1000000
def Tw:Nat × List AV × AV:=(172,[(eG .nsl .nsl),(eG .nsl (cX 1))],.tup [(eG .nsl (cX 1)),.int .i64 0])
theorem OB:kN Tw:=c7 dQ gA.nil k7 k9 80 rfl (by kernel_rfl)
def T1:Nat × List AV × AV:=(172,[(eG .nsl .nsl),(eG (cX 1) (cX 4))],.tup [(eG (cX 1) (cX 4)),.int .i64 0])
theorem N9:kN T1:=c7 dQ gA.nil k7 k9 80 rfl (by kernel_rfl)
def UH:Nat × List AV × AV:=(172,[(eG .nsl .nsl),(eG (cX 3) (cX 4))],.tup [(eG (cX 3) (cX 4)),.int .i64 0])
theorem Nu:kN UH:=c7 dQ gA.nil k7 k9 80 rfl (by kernel_rfl)
def UU:Nat × List AV × AV:=(172,[(eG .nsl .nsl),(eG (cX 1) (cX 1))],.tup [(eG (cX 1) (cX 1)),.int .i64 0])
theorem NW:kN UU:=c7 dQ gA.nil k7 k9 80 rfl (by kernel_rfl)
set_option maxRecDepth 1000000
def Tf:Nat × List AV × AV:=(172,[(eG .nsl (cX 1)),(eG .nsl (cX 1))],.tup [(eG .nsl (cX 1)),.int .i64 0])
theorem N1:kN Tf:=c7 dQ gA.nil k7 k9 80 rfl (by kernel_rfl)
def UG:Nat × List AV × AV:=(172,[(eG (cX 1) (cX 4)),(eG .nsl (cX 1))],.tup [(eG (cX 1) (cX 4)),.int .i64 0])
theorem NO:kN UG:=c7 dQ gA.nil k7 k9 80 rfl (by kernel_rfl)
def Ts:Nat × List AV × AV:=(172,[(eG .nsl (cX 1)),(eG (cX 1) (cX 4))],.tup [(eG (cX 1) (cX 4)),.int .i64 0])
theorem Nj:kN Ts:=c7 dQ gA.nil k7 k9 80 rfl (by kernel_rfl)
set_option maxRecDepth 1000000
def Ot:List (Nat × List AV × AV):=Tu::UD::UI::T4::UB::Tj::UO::UR::Tx::Tp::UP::UT::T3::Tv::Tg::US::UA::UQ::Tl::UM::Th::Tw::T1::UH::UU::Tf::UG::Ts::[]
theorem Cx:gA prog gz Ot:=(lL N0 (lL OY (lL OV (lL OC (lL NY (lL Nh (lL NH (lL Mm (lL Oe (lL NM (lL OZ (lL NR (lL Nr (lL M4 (lL NS (lL Nt (lL Nq (lL N8 (lL OE (lL Nl (lL Mx (lL OB (lL N9 (lL Nu (lL NW (lL N1 (lL NO (lL Nj gA.nil))))))))))))))))))))))))))))
def T9:Nat × List AV × AV:=(9,[PP],.tup [.agg [.bool false,(cX 4)],.int .i64 0])
theorem NZ:kN T9:=c7 dQ Cx k7 k9 80 rfl (by kernel_rfl)
def UC:Nat × List AV × AV:=(22,[PP,.int .i64 3],.tup [.il 2 [.agg [.bool false,.il 1 []],.agg [.bool false,(cX 1)],.agg [.bool false,(cX 3)],.agg [.bool false,.nsl]],.int .i64 0])
theorem My:kN UC:=c7 dQ Cx k7 k9 80 rfl (by kernel_rfl)
def Tr:Nat × List AV × AV:=(51,[PP,.int .i64 1],.tup [(eG (cX 1) (cX 4)),.int .i64 0])
theorem N4:kN Tr:=c7 dQ Cx k7 k9 80 rfl (by kernel_rfl)
set_option maxRecDepth 1000000
def U7:List (Nat × List AV × AV):=T9::UC::Tr::Ot
theorem SZ:gA prog gz U7:=(lL NZ (lL My (lL N4 Cx)))
def WX:Nat × List AV × AV:=(15,[],.bool true)
theorem Mw:kN WX:=c7 dQ SZ k7 k9 80 rfl (by kernel_rfl)
theorem S7:aT prog gz 15 [] (.bool true):=Mw
theorem NU(l:List Int)(at_ how n:Int)(hl:∀x∈l,i64 x)(ha:i64 at_)(hh:i64 how)(hn:i64 n):aT prog gz 3 [.il 1 (bH l),.int .i64 at_,.int .i64 how,.int .i64 n] (.bool true):=LP l at_ how n hl ha hh hn S7
end Go.Proofs.YtidjhgajglebnaaGreatDoor
namespace Go.Proofs.YtidjhgajglebnaaGreatDoor.CountPaths
open Go.ChangeShapes Go.WideShapes Go.ChangeAt Go.RowKit Go.Lib Go.Ax
theorem own:ownKnob Tryz.prog.godebug=none:=by kernel_rfl
theorem laidOut:laidOutB Tryz.prog=true:=by kernel_rfl
theorem cells3:Tryz.prog.cellsOf 3=1:=by kernel_rfl
theorem gNameP:Tryz.prog.globalNamed "internal/strconv.uint64pow10" = some 0:=by kernel_rfl
theorem gNameB:Tryz.prog.globalNamed "math/bits.deBruijn32tab" = some 2:=by kernel_rfl
theorem gNameC:Tryz.prog.globalNamed "math/bits.deBruijn64tab" = some 3:=by kernel_rfl
theorem gTypeP:(Tryz.prog.globals[0]?).map (·.type)=some 323:=by kernel_rfl
theorem gTypeB:(Tryz.prog.globals[2]?).map (·.type)=some 348:=by kernel_rfl
theorem gTypeC:(Tryz.prog.globals[3]?).map (·.type)=some 349:=by kernel_rfl
theorem cellsU:Tryz.prog.cellsOf 156=1:=by kernel_rfl
theorem cellsB:Tryz.prog.cellsOf 5=1:=by kernel_rfl
theorem cellsP:Tryz.prog.cellsOf 323=20:=by kernel_rfl
theorem cellsQ:Tryz.prog.cellsOf 348=32:=by kernel_rfl
theorem cellsR:Tryz.prog.cellsOf 349=64:=by kernel_rfl
def pows:List Int:=[1,10,100,1000,10000,100000,1000000,10000000,100000000,1000000000,10000000000,100000000000,1000000000000,10000000000000,100000000000000,1000000000000000,10000000000000000,100000000000000000,1000000000000000000,10000000000000000000]
def tabB:List Int:=[0,1,28,2,29,14,24,3,30,22,20,15,25,17,4,8,31,27,13,23,21,19,16,7,26,12,18,6,11,5,10,9]
def tabC:List Int:=[0,1,56,2,57,49,28,3,61,58,42,50,38,29,17,4,62,47,59,36,45,43,51,22,53,39,33,30,24,18,12,5,63,55,48,27,60,41,37,16,46,35,44,21,52,32,23,11,54,26,40,15,34,20,31,10,25,14,19,9,13,8,7,6]
theorem vars{W:World}(h:laidMetH Tryz.prog Rows.countPathsRow.laid W):∀p∈gz,VR (fun _=>⟨0,0,0⟩) (fun _=>False) (OX (fun _=>False) (fun _=>⟨0,0,0⟩) []) W (.ip p.2) (.pointer (some ⟨p.1,0,none⟩)):=by
 have h:laidMet Tryz.prog Rows.countPathsRow.laid W:=h
 have hP:=tabIs_of_head (k:=.u64) (zs:=pows) gNameP gTypeP Tryz.underlying323 Tryz.underlying156 cellsU cellsP h.tail.tail
 have hB:=tabIs_of_head (k:=.u8) (zs:=tabB) gNameB gTypeB Tryz.underlying348 Tryz.underlying5 cellsB cellsQ h
 have hC:=tabIs_of_head (k:=.u8) (zs:=tabC) gNameC gTypeC Tryz.underlying349 Tryz.underlying5 cellsB cellsR h.tail
 intro p hp
 simp only[gz,List.mem_cons,List.not_mem_nil,or_false] at hp
 rcases hp with rfl|rfl|rfl
 ·exact z6 gNameP hP
 ·exact z6 gNameB hB
 ·exact z6 gNameC hC
set_option maxRecDepth 100000 in
theorem contract(H:Type)(enc:TypeId × Value→H)(W:World)(base:Nat)(args:Array Value)(ds gs:List (DataW H))(before:List MemPlace)
  (hval:∀(j:Nat) t v,Tryz.f3.params[j]? = some t→args[j]? = some v→Value.okWide Tryz.prog W .any base t v)
  (hW:DataW.Whole enc Tryz.prog Tryz.f3.params.toList Rows.countPathsSpec.vars false W args.toList ds gs before) (hL:laidMetH Tryz.prog Rows.countPathsRow.laid W) :
  Calls Tryz.prog 3 args W fun e W'=>∃v,e = .returned v∧Rows.countPathsSpec.post enc Tryz.prog Tryz.f3 false true false false W args v W':=by
 have hW':=hW
 obtain⟨p,q,hA0,hV,rfl,hfz,hnd⟩:=hW
 have hA:DataW.TrodAll enc Tryz.prog W 0 (fun _=>true) true Tryz.f3.params.toList args.toList ds p:=hA0
 rw[Tryz.params3] at hA hval
 obtain⟨v0,vs0,d0,ds0,p0,q0,hargs,rfl,rfl,h0,r0⟩:=trodAll_cons hA
 obtain⟨v1,vs1,d1,ds1,p1,q1,rfl,rfl,rfl,h1,r1⟩:=trodAll_cons r0
 obtain⟨v2,vs2,d2,ds2,p2,q2,rfl,rfl,rfl,h2,r2⟩:=trodAll_cons r1
 obtain⟨v3,vs3,d3,ds3,p3,q3,rfl,rfl,rfl,h3,r3⟩:=trodAll_cons r2
 obtain⟨rfl,rfl,rfl⟩:=trodAll_nil r3
 obtain rfl:args = #[v0,v1,v2,v3]:=by cases args;simp_all
 obtain⟨rfl,rfl⟩:=trodVars_none hV
 have h0k:=h0
 obtain⟨x0,b0,e0⟩:=LN Tryz.underlying22 Tryz.underlying3 cells3 (hval 0 22 v0 rfl rfl) h0
 have h1k:=h1
 obtain⟨x1,rfl,rfl,rfl,hwf1⟩:=open_int Tryz.underlying3 (hval 1 3 v1 rfl rfl) h1
 have b1:i64 x1:=by
  have e1:IntKind.i64.min = -9223372036854775808:=rfl
  have e2:IntKind.i64.max=9223372036854775807:=rfl
  simp[Lit.wf,e1,e2] at hwf1
  unfold i64
  omega
 have h2k:=h2
 obtain⟨x2,rfl,rfl,rfl,hwf2⟩:=open_int Tryz.underlying3 (hval 2 3 v2 rfl rfl) h2
 have b2:i64 x2:=by
  have e1:IntKind.i64.min = -9223372036854775808:=rfl
  have e2:IntKind.i64.max=9223372036854775807:=rfl
  simp[Lit.wf,e1,e2] at hwf2
  unfold i64
  omega
 have h3k:=h3
 obtain⟨x3,rfl,rfl,rfl,hwf3⟩:=open_int Tryz.underlying3 (hval 3 3 v3 rfl rfl) h3
 have b3:i64 x3:=by
  have e1:IntKind.i64.min = -9223372036854775808:=rfl
  have e2:IntKind.i64.max=9223372036854775807:=rfl
  simp[Lit.wf,e1,e2] at hwf3
  unfold i64
  omega
 clear hA0
 refine((NU x0 x1 x2 x3 b0 b1 b2 b3).callsG W [v0,.int .i64 x1,.int .i64 x2,.int .i64 x3] (vars hL) (.cons e0 (.cons (.int _ _) (.cons (.int _ _) (.cons (.int _ _) .nil))))).mono ?_
 rintro e W' ⟨rfl,hk⟩
 refine⟨_,rfl,_,_,_,[],p0++([]++([]++([]++[]))),[],hW', ?_, ?_, ?_,hk.frame _,fun h=>by cases h⟩
 ·exact trodAll_cons_mk (shut_bool Tryz.underlying4 _) trodAll_mk0
 ·exact trodAll_cons_mk (FY.trod laidOut (by kernel_rfl) (of_decide_eq_true (by kernel_rfl)) h0k hk) (trodAll_cons_mk (FY.trod laidOut (by kernel_rfl) (of_decide_eq_true (by kernel_rfl)) h1k hk) (trodAll_cons_mk (FY.trod laidOut (by kernel_rfl) (of_decide_eq_true (by kernel_rfl)) h2k hk) (trodAll_cons_mk (FY.trod laidOut (by kernel_rfl) (of_decide_eq_true (by kernel_rfl)) h3k hk) trodAll_mk0)))
 ·rfl
noncomputable def laidWorld(os:Os):World:=
 let w0:=World.holding Tryz.prog os ⟨#[],#[],[]⟩
 let put (h:Array Obj) (g:Nat) (cs:Array Value):Array Obj:=h.modify g fun
  | .cells _ t frozen=>.cells cs t frozen
  | o=>o
 let nums (d:DataW Unit):Array Value:=match d with
  | .agg ds=>(ds.map fun
   | .lit (.int k n)=>Value.int k n
   | _=>.bool false).toArray
  | _=>#[]
 let h1:=put w0.heap 0 (nums Rows.laid_internal_strconv_uint64pow10)
 let h2:=put h1 2 (nums Rows.laid_math_bits_deBruijn32tab)
 let h3:=put h2 3 (nums Rows.laid_math_bits_deBruijn64tab)
 { w0 with heap:=h3 }
theorem laid_met(os:Os)(args:Array Value):laidMet Tryz.prog Rows.countPathsRow.laid ((laidWorld os).forCall (fun _ _=>0) ⟨#[],args,[]⟩).memory:=
 (LaidIn.of_run (l:=Rows.countPathsRow.laid) [0,2,3] 8 (by kernel_rfl) (by kernel_rfl) (by kernel_rfl) (by kernel_rfl)).met
noncomputable abbrev wargs:Array Value:=#[.slice none 0 0,.int .i64 0,.int .i64 0,.int .i64 0]
theorem reads(os:Os){H:Type}(enc:TypeId × Value→H):∃places,DataW.whole enc Tryz.prog ((laidWorld os).forCall (fun _ _=>0) ⟨#[],wargs,[]⟩).memory Tryz.f3.params.toList Rows.countPathsSpec.vars false wargs.toList 8=some ([.nil,.lit (.int .i64 0),.lit (.int .i64 0),.lit (.int .i64 0)],[],places):=
 ⟨[],by kernel_rfl⟩
set_option maxRecDepth 100000 in
theorem lifted(os:Os)(started:os.Started)(H:Type)(enc:TypeId × Value→H)(F:Stop.Interp) :
  ReturnsInHanded {} Tryz.checked os 3 .any ((OpenSpec.ofChange Rows.countPathsSpec).preRow enc Tryz.prog Tryz.f3 Rows.countPathsRow.domain false Rows.countPathsRow.laid) (((OpenSpec.ofChange Rows.countPathsSpec).at F).post enc Tryz.prog Tryz.f3 false true false false):=by
 obtain⟨places,hx⟩:=reads os enc
 refine returnsInHanded_of_row (C:=Tryz.checked) (s:=OpenSpec.ofChange Rows.countPathsSpec) own started (by kernel_rfl) Tryz.func3
  (witness_row_atRef (enc:=enc) (C:=Tryz.checked) false (laidWorld os) wargs rfl (by kernel_rfl) (by kernel_rfl) (by kernel_rfl)
   (OpenSpec.preRow_of_cond 8 hx (by kernel_rfl) (fun k hk=>by cases hk) (by kernel_rfl) (laid_met os _))) ?_
 intro W base args ds gs before hval hW _ _ _ hL _ _
 exact contract H enc W base args ds gs before hval hW hL
theorem said:Rows.CountPathsSaid:=
 OpenClaim.holds_of_cond 3 Tryz.f3 rfl rfl rfl rfl rfl rfl rfl ⟨rfl,rfl,rfl,rfl,rfl⟩ rfl rfl rfl rfl rfl (by kernel_rfl) Tryz.func3 (by kernel_rfl)
  (of_decide_eq_true (by kernel_rfl)) (by unfold Func.isWrapper;first|(rw[if_pos (by decide +kernel)];kernel_rfl)|(rw[if_neg (by decide +kernel)];exact⟨rfl,rfl⟩))
  (fun os started H enc _ F=>by rw[OpenClaim.pre_eq_preRow];exact lifted os started H enc F)
theorem plain(f:FuncId)(fn:Func)(hf:Tryz.pinned.checked.prog.funcNamed "refuter/refuterlaw15.CountPaths" = some f)(hfn:Tryz.pinned.checked.prog.funcs[f]? = some fn) :
  true=Tryz.pinned.checked.prog.looks []∧∀(j:Nat) t,fn.params[j]? = some t→Tryz.pinned.checked.prog.wantsStandIn t=false:=by
 obtain rfl:f=3:=Option.some.inj ((show Tryz.prog.funcNamed "refuter/refuterlaw15.CountPaths" = some 3 by kernel_rfl).symm.trans hf) |>.symm
 obtain rfl:fn=Tryz.f3:=(Option.some.inj (Tryz.func3.symm.trans hfn)).symm
 refine⟨by kernel_rfl,fun j t ht=>?_⟩
 rw[Tryz.params3] at ht
 have hTI:Tryz.prog.wantsStandIn 22=false:=by kernel_rfl
 have hTi:Tryz.prog.wantsStandIn 3=false:=by kernel_rfl
 have hm:=Array.mem_of_getElem? ht
 simp at hm
 repeat' (first|(rw[(hm:t=22)];exact hTI)|(rw[(hm:t=3)];exact hTi)|rcases hm with hm|hm)
theorem card:Rows.CountPathsCardSaid:=
 Claim7.holds_tied_plain_at .later [] _ _ _ _ said (fun _ h=>by cases h) (by kernel_rfl) (fun _ h=>by cases h) countPaths_row_tie rfl ⟨rfl,rfl⟩ (by kernel_rfl) rfl plain (by kernel_rfl)
end Go.Proofs.YtidjhgajglebnaaGreatDoor.CountPaths
