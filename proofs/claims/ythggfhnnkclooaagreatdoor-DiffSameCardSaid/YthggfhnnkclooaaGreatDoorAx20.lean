/- For every input (tree choices, a place, a number, and path choices), refuterlaw31.DiffSame returns true, and its arguments read behind the call as they read before (the card DiffSameCardSaid, the full form). Conditions: the package-level variables that the row lists hold, when the call begins, what the program's text lays (the card ties them to it); no bound on sizes. -/
import Derived.Test.YthggfhnnkclooaaGreatDoorAx19
import Derived.Test.YthggfhnnkclooaaGreatDoorCards
import Derived.Test.YthggfhnnkclooaaGreatDoorTie
import Derived.Lib.LaidIn
set_option linter.unusedVariables false
set_option linter.unusedSimpArgs false
set_option linter.unusedSectionVars false
namespace Go.Proofs.YthggfhnnkclooaaGreatDoor
open Go Go.Ax Go.Proofs Tryz
set_option maxRecDepth 1000000
theorem Se:aX prog gz 14 [] (.bool true):=TC fQ YD EQ.nil Cf.nil [] [23,46,12] [] 120 rfl (by kernel_rfl)
theorem PG(l:List Int)(at_ n:Int)(raw:List Int)(hl:∀x∈l,i64 x)(ha:i64 at_)(hn:i64 n)(hr:∀x∈raw,i64 x)(hlen:l.length<=17592186043904)(hrl:raw.length<=17592186043904) :
  aX prog gz 4 [.il 1 (aV l),.int .i64 at_,.int .i64 n,.il 1 (aV raw)] (.bool true):=MW l at_ n raw hl ha hn hr hlen hrl Se
end Go.Proofs.YthggfhnnkclooaaGreatDoor
namespace Go.Proofs.YthggfhnnkclooaaGreatDoor.DiffSame
open Go.ChangeShapes Go.WideShapes Go.ChangeAt Go.RowKit Go.Lib Go.Ax
set_option maxHeartbeats 16000000
theorem own:ownKnob Tryz.prog.godebug=none:=by kernel_rfl
theorem laidOut:laidOutB Tryz.prog=true:=by kernel_rfl
theorem cells3:Tryz.prog.cellsOf 3=1:=by kernel_rfl
theorem bytes3:Tryz.prog.bytesOf 3=8:=by kernel_rfl
theorem gName:Tryz.prog.globalNamed "strconv.ErrSyntax" = some 2:=by kernel_rfl
theorem gNameR:Tryz.prog.globalNamed "strconv.ErrRange" = some 3:=by kernel_rfl
theorem gNameP:Tryz.prog.globalNamed "internal/strconv.uint64pow10" = some 0:=by kernel_rfl
theorem gType:(Tryz.prog.globals[2]?).map (·.type)=some 168:=by kernel_rfl
theorem gTypeR:(Tryz.prog.globals[3]?).map (·.type)=some 168:=by kernel_rfl
theorem gTypeP:(Tryz.prog.globals[0]?).map (·.type)=some 336:=by kernel_rfl
theorem star : "*" ++ "errors.errorString" = "*errors.errorString" := by decide
theorem named(u:TypeId)(h:Tryz.prog.typeName? 3 u=some "*errors.errorString"):u=350:=
 typeName_ptr_named (nm:="errors.errorString") (by rw[star];kernel_rfl) (by kernel_rfl) (by decide) u (by rw[star];exact h)
theorem cellsE:Tryz.prog.cellsOf 352=1:=by kernel_rfl
theorem cellsS:Tryz.prog.cellsOf 9=1:=by kernel_rfl
theorem cellsU:Tryz.prog.cellsOf 209=1:=by kernel_rfl
theorem cellsP:Tryz.prog.cellsOf 336=20:=by kernel_rfl
def pows:List Int:=[1,10,100,1000,10000,100000,1000000,10000000,100000000,1000000000,10000000000,100000000000,1000000000000,10000000000000,100000000000000,1000000000000000,10000000000000000,100000000000000000,1000000000000000000,10000000000000000000]
theorem vars{W:World}(h:laidMetH Tryz.prog Rows.diffSameRow.laid W):∀p∈gz,VR (fun _=>⟨0,0,0⟩) (fun _=>False) (OX (fun _=>False) (fun _=>⟨0,0,0⟩) []) W (.ip p.2) (.pointer (some ⟨p.1,0,none⟩)):=by
 have h:laidMet Tryz.prog Rows.diffSameRow.laid W:=h
 have h4:=h.tail.tail.tail.tail
 obtain⟨a,s,hv,hc,hs,hz⟩:=laid_sentinel (tp:=350) (te:=352) (ts:=9) h4 gName gType Tryz.underlying168 named Tryz.underlying350 Tryz.underlying352 rfl rfl Tryz.underlying9 cellsE cellsS
 have hsp:=En h4 gName hv Tryz.underlying350
 have h3:=h.tail.tail.tail
 obtain⟨a',s',hv',hc',hs',hz'⟩:=laid_sentinel (tp:=350) (te:=352) (ts:=9) h3 gNameR gTypeR Tryz.underlying168 named Tryz.underlying350 Tryz.underlying352 rfl rfl Tryz.underlying9 cellsE cellsS
 have hsp':=En h3 gNameR hv' Tryz.underlying350
 have h2:=h.tail.tail
 have htab:=tabIs_of_head (k:=.u64) (zs:=pows) gNameP gTypeP Tryz.underlying336 Tryz.underlying209 cellsU cellsP h2
 intro p hp
 simp only[gz,List.mem_cons,List.not_mem_nil,or_false] at hp
 rcases hp with rfl|rfl|rfl
 ·exact zZ gName hv hsp
 ·exact zZ gNameR hv' hsp'
 ·exact Ka gNameP htab
set_option maxRecDepth 100000 in
theorem contract(H:Type)(enc:TypeId × Value→H)(W:World)(base:Nat)(args:Array Value)(ds gs:List (DataW H))(before:List MemPlace)
  (hval:∀(j:Nat) t v,Tryz.f4.params[j]? = some t→args[j]? = some v→Value.okWide Tryz.prog W .any base t v)
  (hW:DataW.Whole enc Tryz.prog Tryz.f4.params.toList Rows.diffSameSpec.vars false W args.toList ds gs before) (hL:laidMetH Tryz.prog Rows.diffSameRow.laid W) (vt:List TypeId) (hsz:(DataW.weightsEach Tryz.prog (Tryz.f4.params.toList++vt) (ds++gs)).all (· ≤ reachBytes)=true) :
  Calls Tryz.prog 4 args W fun e W'=>∃v,e = .returned v∧Rows.diffSameSpec.post enc Tryz.prog Tryz.f4 false true false false W args v W':=by
 have hW':=hW
 obtain⟨p,q,hA0,hV,rfl,hfz,hnd⟩:=hW
 have hA:DataW.TrodAll enc Tryz.prog W 0 (fun _=>true) true Tryz.f4.params.toList args.toList ds p:=hA0
 rw[Tryz.params4] at hA hval
 rw[Tryz.params4] at hsz
 obtain⟨v0,vs0,d0,ds0,p0,q0,hargs,rfl,rfl,h0,r0⟩:=trodAll_cons hA
 obtain⟨v1,vs1,d1,ds1,p1,q1,rfl,rfl,rfl,h1,r1⟩:=trodAll_cons r0
 obtain⟨v2,vs2,d2,ds2,p2,q2,rfl,rfl,rfl,h2,r2⟩:=trodAll_cons r1
 obtain⟨v3,vs3,d3,ds3,p3,q3,rfl,rfl,rfl,h3,r3⟩:=trodAll_cons r2
 obtain⟨rfl,rfl,rfl⟩:=trodAll_nil r3
 obtain rfl:args = #[v0,v1,v2,v3]:=by cases args;simp_all
 obtain⟨rfl,rfl⟩:=trodVars_none hV
 have hw0:(d0.weights Tryz.prog 22).all (· ≤ reachBytes)=true:=AG (hsz)
 have hw3:(d3.weights Tryz.prog 22).all (· ≤ reachBytes)=true:=AG (r7 (r7 (r7 (hsz))))
 have h0k:=h0
 obtain⟨x0,b0,e0,s0⟩:=DO Tryz.underlying22 Tryz.underlying3 cells3 bytes3 (hval 0 22 v0 rfl rfl) h0 hw0
 have h1k:=h1
 obtain⟨x1,rfl,rfl,rfl,hwf1⟩:=open_int Tryz.underlying3 (hval 1 3 v1 rfl rfl) h1
 have b1:i64 x1:=by
  have e1:IntKind.i64.min = -9223372036854775808:=rfl
  have e2:IntKind.i64.max=9223372036854775807:=rfl
  simp[Lit.wf,e1,e2] at hwf1
  unfold i64
  omega
 have h2k:=h2
 obtain⟨x2,rfl,rfl,rfl,hwf2⟩:=open_int Tryz.underlying3 (hval 2 3 v2 rfl rfl) h2
 have b2:i64 x2:=by
  have e1:IntKind.i64.min = -9223372036854775808:=rfl
  have e2:IntKind.i64.max=9223372036854775807:=rfl
  simp[Lit.wf,e1,e2] at hwf2
  unfold i64
  omega
 have h3k:=h3
 obtain⟨x3,b3,e3,s3⟩:=DO Tryz.underlying22 Tryz.underlying3 cells3 bytes3 (hval 3 22 v3 rfl rfl) h3 hw3
 clear hA0
 refine((PG x0 x1 x2 x3 b0 b1 b2 b3 s0 s3).callsG W [v0,.int .i64 x1,.int .i64 x2,v3] (vars hL) (.cons e0 (.cons (.int _ _) (.cons (.int _ _) (.cons e3 .nil))))).mono ?_
 rintro e W' ⟨rfl,hk⟩
 refine⟨_,rfl,_,_,_,[],p0++([]++([]++(p3++[]))),[],hW', ?_, ?_, ?_,hk.frame _,fun h=>by cases h⟩
 ·exact trodAll_cons_mk (shut_bool Tryz.underlying4 _) trodAll_mk0
 ·exact trodAll_cons_mk (ET.trod laidOut (by kernel_rfl) (of_decide_eq_true (by kernel_rfl)) h0k hk) (trodAll_cons_mk (ET.trod laidOut (by kernel_rfl) (of_decide_eq_true (by kernel_rfl)) h1k hk) (trodAll_cons_mk (ET.trod laidOut (by kernel_rfl) (of_decide_eq_true (by kernel_rfl)) h2k hk) (trodAll_cons_mk (ET.trod laidOut (by kernel_rfl) (of_decide_eq_true (by kernel_rfl)) h3k hk) trodAll_mk0)))
 ·rfl
noncomputable def laidWorld(os:Os):World:=
 let N:=(World.settled Tryz.prog os).heap.size
 let w0:=World.holding Tryz.prog os ⟨#[
  .cells #[.string ⟨#[105,110,118,97,108,105,100,32,115,121,110,116,97,120]⟩] 352,
  .cells #[.string ⟨#[118,97,108,117,101,32,111,117,116,32,111,102,32,114,97,110,103,101]⟩] 352],#[],[]⟩
 let put (h:Array Obj) (g:Nat) (cs:Array Value):Array Obj:=h.modify g fun
  | .cells _ t frozen=>.cells cs t frozen
  | o=>o
 let nums (d:DataW Unit):Array Value:=match d with
  | .agg ds=>(ds.map fun
   | .lit (.int k n)=>Value.int k n
   | _=>.bool false).toArray
  | _=>#[]
 let h0:=put (put w0.heap 2 #[.iface 350 (.pointer (some ⟨N,0,none⟩))]) 3 #[.iface 350 (.pointer (some ⟨N+1,0,none⟩))]
 let h1:=put h0 0 (nums Rows.laid_internal_strconv_uint64pow10)
 let h2:=put h1 4 (nums Rows.laid_math_bits_deBruijn32tab)
 let h3:=put h2 5 (nums Rows.laid_math_bits_deBruijn64tab)
 { w0 with heap:=h3 }
noncomputable abbrev N0:Nat:=(World.settled Tryz.prog default).heap.size
theorem laid_met(os:Os)(args:Array Value):laidMet Tryz.prog Rows.diffSameRow.laid ((laidWorld os).forCall (fun _ _=>0) ⟨#[],args,[]⟩).memory:=
 (LaidIn.of_run (l:=Rows.diffSameRow.laid) [2,3,0,4,5,N0,N0+1] 8 (by kernel_rfl) (by kernel_rfl) (by kernel_rfl) (by kernel_rfl)).met
noncomputable abbrev wargs:Array Value:=#[.slice none 0 0,.int .i64 0,.int .i64 0,.slice none 0 0]
theorem reads(os:Os){H:Type}(enc:TypeId × Value→H):∃places,DataW.whole enc Tryz.prog ((laidWorld os).forCall (fun _ _=>0) ⟨#[],wargs,[]⟩).memory Tryz.f4.params.toList Rows.diffSameSpec.vars false wargs.toList 8=some ([.nil,.lit (.int .i64 0),.lit (.int .i64 0),.nil],[],places):=
 ⟨[],by kernel_rfl⟩
set_option maxRecDepth 100000 in
theorem lifted(os:Os)(started:os.Started)(H:Type)(enc:TypeId × Value→H)(F:Stop.Interp) :
  ReturnsInHanded {} Tryz.checked os 4 .any ((OpenSpec.ofChange Rows.diffSameSpec).preRow enc Tryz.prog Tryz.f4 Rows.diffSameRow.domain false Rows.diffSameRow.laid) (((OpenSpec.ofChange Rows.diffSameSpec).at F).post enc Tryz.prog Tryz.f4 false true false false):=by
 obtain⟨places,hx⟩:=reads os enc
 refine returnsInHanded_of_row (C:=Tryz.checked) (s:=OpenSpec.ofChange Rows.diffSameSpec) own started (by kernel_rfl) Tryz.func4
  (witness_row_atRef (enc:=enc) (C:=Tryz.checked) false (laidWorld os) wargs rfl (by kernel_rfl) (by kernel_rfl) (by kernel_rfl)
   (OpenSpec.preRow_of_cond 8 hx (by kernel_rfl) (fun k hk=>by cases hk) (by kernel_rfl) (laid_met os _))) ?_
 intro W base args ds gs before hval hW _ _ hsz hL _ _
 exact contract H enc W base args ds gs before hval hW hL _ hsz
theorem said:Rows.DiffSameSaid:=
 OpenClaim.holds_of_cond 4 Tryz.f4 rfl rfl rfl rfl rfl rfl rfl ⟨rfl,rfl,rfl,rfl,rfl⟩ rfl rfl rfl rfl rfl (by as_aux_lemma=>kernel_rfl) Tryz.func4 (by unfold joinedFacts;simp only[Bool.and_eq_true];(repeat' apply And.intro);all_goals (as_aux_lemma=>kernel_rfl))
  (of_decide_eq_true (by as_aux_lemma=>kernel_rfl)) (by unfold Func.isWrapper;first|(rw[if_pos (by as_aux_lemma=>decide +kernel)];as_aux_lemma=>kernel_rfl)|(rw[if_neg (by as_aux_lemma=>decide +kernel)];exact⟨rfl,rfl⟩))
  (fun os started H enc _ F=>by rw[OpenClaim.pre_eq_preRow];exact lifted os started H enc F)
theorem plain(f:FuncId)(fn:Func)(hf:Tryz.pinned.checked.prog.funcNamed "refuter/refuterlaw31.DiffSame" = some f)(hfn:Tryz.pinned.checked.prog.funcs[f]? = some fn) :
  true=Tryz.pinned.checked.prog.looks []∧∀(j:Nat) t,fn.params[j]? = some t→Tryz.pinned.checked.prog.wantsStandIn t=false:=by
 obtain rfl:f=4:=Option.some.inj ((show Tryz.prog.funcNamed "refuter/refuterlaw31.DiffSame" = some 4 by kernel_rfl).symm.trans hf) |>.symm
 obtain rfl:fn=Tryz.f4:=(Option.some.inj (Tryz.func4.symm.trans hfn)).symm
 refine⟨by kernel_rfl,fun j t ht=>?_⟩
 rw[Tryz.params4] at ht
 have hTI:Tryz.prog.wantsStandIn 22=false:=by kernel_rfl
 have hTi:Tryz.prog.wantsStandIn 3=false:=by kernel_rfl
 have hm:=Array.mem_of_getElem? ht
 simp at hm
 repeat' (first|(rw[(hm:t=22)];exact hTI)|(rw[(hm:t=3)];exact hTi)|rcases hm with hm|hm)
theorem card:Rows.DiffSameCardSaid:=
 Claim7.holds_tied_plain_at .later [] _ _ _ _ said (fun _ h=>by cases h) (by kernel_rfl) (fun _ h=>by cases h) diffSame_row_tie rfl ⟨rfl,rfl⟩ (by kernel_rfl) rfl plain (by kernel_rfl)
end Go.Proofs.YthggfhnnkclooaaGreatDoor.DiffSame
