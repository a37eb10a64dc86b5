/- For every input (of two slices of ints and three ints), refuterlaw21.OrderLowers returns true, and its arguments read behind the call as they read before (the statement OrderLowersSaid, the full form). Conditions: none; no bound on sizes. -/
import Derived.Test.YthempfhilcmfnaaGreatAx21
import Derived.Test.YthempfhilcmfnaaGreatProg
import Derived.KernelRfl
import Derived.Test.YthempfhilcmfnaaGreatRows
import Derived.Test.YthempfhilcmfnaaGreatChecked
import Derived.Lib.LaidIn
set_option linter.unusedVariables false
set_option linter.unusedSimpArgs false
namespace Go.Proofs.YthempfhilcmfnaaGreat
open Go Go.Ax Go.Proofs Tryz
set_option maxRecDepth 1000000
set_option maxRecDepth 1000000
def ix(n:Int):AV:=.int .i64 n
def Pb(kind hi:Int)(ws ks:AV):AV:=.agg [ix kind,.str [],ix 0,ix hi,ws,.nsl,.nsl,ks,ix 0,ix 0,.str [],.nsl]
def N0:AV:=.agg [.il 12 [Pb 1 9 .nsl .nsl,Pb 3 0 .nsl .nsl,Pb 3 0 .nsl (.il 1 [ix 0]),Pb 3 0 .nsl (.il 1 [ix 0,ix 0]),Pb 3 0 .nsl (.il 1 [ix 0,ix 0,ix 0]),Pb 2 0 (.il 1 [ix 1,ix 1,ix 1,ix 1]) (.il 1 [ix 1,ix 2,ix 3,ix 4])]]
def Rj:List AV:=[ix 2,ix 4,ix 4]
theorem Ow:aM prog [] 28 [] [] 0 fun r m k=>r=N0/\m=[]/\k=0:=yM bC [] 80 rfl (by kernel_rfl)
def Qt(l:List (List Int)):AV:=.tup [.il 1 (l.map fun p=>.il 1 (p.map ix)),ix 0]
def OA:aS:=[(0,.row 3 1 Rj)]
set_option maxRecDepth 1000000
theorem Iy:aM prog [] 27 [N0,.sl 0 0 3] OA 1 fun r m k=>r=Qt [[1,4],[2,4,0]]/\m=OA/\k=1:=yM bC [105] 80 rfl (by kernel_rfl)
set_option maxRecDepth 1000000
theorem Kg:aM prog [] 29 [N0,.sl 0 0 3] OA 1 fun r m k=>r=Qt [[0],[1,4],[2,0,4],[2,2,4],[2,3,4],[2,4,0],[2,4,2],[2,4,3]]/\m=OA/\k=1:=yM bC [105] 80 rfl (by kernel_rfl)
set_option maxRecDepth 1000000
theorem M6:aM prog [] 30 [N0,.sl 0 0 3] OA 1 fun r m k=>r=Qt []/\m=OA/\k=1:=yM bC [105] 80 rfl (by kernel_rfl)
set_option maxRecDepth 1000000
theorem Kr:aM prog [] 31 [N0,.sl 0 0 3] OA 1 fun r m k=>r=Qt [[2,2,4],[2,4,2]]/\m=OA/\k=1:=yM bC [105] 80 rfl (by kernel_rfl)
set_option maxRecDepth 100000
set_option maxHeartbeats 16000000
theorem PI(l:List (List Int)):Qt l = .tup [.il 1 (aZ l),.int .i64 0]:=rfl
theorem xQ:a8 prog [] 16 [] (.bool true):=by
 have h1:=Ow;have h2:=Iy;have h3:=Kg;have h4:=M6;have h5:=Kr;rw[PI] at h2 h3 h4 h5;have s2:=rX [[1,4],[2,4,0]] (by simp) (by simp[oZ]);have s3:=rX [[0],[1,4],[2,0,4],[2,2,4],[2,3,4],[2,4,0],[2,4,2],[2,4,3]] (by simp) (by simp[oZ]);have s5:=rX [[2,2,4],[2,4,2]] (by simp) (by simp[oZ]);have nx:NN N0:=(pH (m:=[]) (σ:=[]) 30 N0 N0 rfl).nn;refine aL bC func16 rfl ?_;((conv=>whnf);repeat(refine Xg ?_;conv=>whnf));refine aM.goG0 h1 ?_;rintro r m n ⟨rfl,rfl,rfl⟩;refine⟨_,.same _ nx, ?_⟩;((conv=>whnf);repeat(refine Xg ?_;conv=>whnf));refine aM.exact h2 ?_;((conv=>whnf);repeat(refine Xg ?_;conv=>whnf));refine aM.goG0 h1 ?_;rintro r m n ⟨rfl,rfl,rfl⟩;refine⟨_,.same _ nx, ?_⟩;((conv=>whnf);repeat(refine Xg ?_;conv=>whnf));refine aM.exact h3 ?_;((conv=>whnf);repeat(refine Xg ?_;conv=>whnf));refine aM.goG0 h1 ?_;rintro r m n ⟨rfl,rfl,rfl⟩;refine⟨_,.same _ nx, ?_⟩;((conv=>whnf);repeat(refine Xg ?_;conv=>whnf));refine aM.exact h4 ?_;((conv=>whnf);repeat(refine Xg ?_;conv=>whnf));refine aM.goG0 h1 ?_;rintro r m n ⟨rfl,rfl,rfl⟩;refine⟨_,.same _ nx, ?_⟩;((conv=>whnf);repeat(refine Xg ?_;conv=>whnf));refine aM.exact h5 ?_;((conv=>whnf);repeat(refine Xg ?_;conv=>whnf));refine s2.lend bC (El 30 rfl) (.bool true) ?_;((conv=>whnf);repeat(refine Xg ?_;conv=>whnf));refine s3.lend bC (El 30 rfl) (.bool true) ?_;((conv=>whnf);repeat(refine Xg ?_;conv=>whnf));refine s5.lend bC (El 30 rfl) (.bool true) ?_;((conv=>whnf);repeat(refine Xg ?_;conv=>whnf));exact aA nn ⟨rfl,rfl,rfl⟩
set_option maxRecDepth 100000
set_option maxHeartbeats 16000000
theorem Nz(l m:List Int)(at_ how n:Int)(hl:∀x∈l,i64 x)(hm:∀x∈m,i64 x)(ha:i64 at_)(hh:i64 how)(hn:i64 n) :
  a8 prog [] 5 [.il 1 (aI l),.il 1 (aI m),.int .i64 at_,.int .i64 how,.int .i64 n] (.bool true):=by
 have nl:NN (.il 1 (aI l)):=.il' (aG l);have nm:NN (.il 1 (aI m)):=.il' (aG m);have hA:a8 prog [] 17 [.int .i64 1,.il 1 (aI l),.il 1 (aI m),.int .i64 at_,.int .i64 how,.int .i64 n] (.bool true):=K8 1 l m at_ how n (fun _ _ h=>Ln h) hl hm ha hh hn;refine aL bC func5 rfl ?_;((conv=>whnf);repeat(refine Xg ?_;conv=>whnf));refine hA.go ?_ (.cons nn (.cons nl (.cons nm (.cons nn (.cons nn (.cons nn .nil)))))) nn;((conv=>whnf);repeat(refine Xg ?_;conv=>whnf));refine xQ.go ?_ .nil nn;((conv=>whnf);repeat(refine Xg ?_;conv=>whnf));exact aA nn ⟨rfl,rfl,rfl⟩
end Go.Proofs.YthempfhilcmfnaaGreat
namespace Go.Proofs.YthempfhilcmfnaaGreat.OrderLowers
open Go.ChangeShapes Go.WideShapes Go.ChangeAt Go.RowKit Go.Lib Go.Ax
theorem own:ownKnob Tryz.prog.godebug=none:=by kernel_rfl
theorem laidOut:laidOutB Tryz.prog=true:=by kernel_rfl
theorem cells3:Tryz.prog.cellsOf 3=1:=by kernel_rfl
set_option maxRecDepth 100000 in
theorem contract(H:Type)(enc:TypeId × Value→H)(W:World)(base:Nat)(args:Array Value)(ds gs:List (DataW H))(before:List MemPlace)
  (hval:∀(j:Nat) t v,Tryz.f5.params[j]? = some t→args[j]? = some v→Value.okWide Tryz.prog W .any base t v)
  (hW:DataW.Whole enc Tryz.prog Tryz.f5.params.toList Rows.orderLowersSpec.vars false W args.toList ds gs before) (hL:laidMetH Tryz.prog Rows.orderLowersRow.laid W) :
  Calls Tryz.prog 5 args W fun e W'=>∃v,e = .returned v∧Rows.orderLowersSpec.post enc Tryz.prog Tryz.f5 false true false false W args v W':=by
 have hW':=hW
 obtain⟨p,q,hA0,hV,rfl,hfz,hnd⟩:=hW
 have hA:DataW.TrodAll enc Tryz.prog W 0 (fun _=>true) true Tryz.f5.params.toList args.toList ds p:=hA0
 rw[Tryz.params5] at hA hval
 obtain⟨v0,vs0,d0,ds0,p0,q0,hargs,rfl,rfl,h0,r0⟩:=trodAll_cons hA
 obtain⟨v1,vs1,d1,ds1,p1,q1,rfl,rfl,rfl,h1,r1⟩:=trodAll_cons r0
 obtain⟨v2,vs2,d2,ds2,p2,q2,rfl,rfl,rfl,h2,r2⟩:=trodAll_cons r1
 obtain⟨v3,vs3,d3,ds3,p3,q3,rfl,rfl,rfl,h3,r3⟩:=trodAll_cons r2
 obtain⟨v4,vs4,d4,ds4,p4,q4,rfl,rfl,rfl,h4,r4⟩:=trodAll_cons r3
 obtain⟨rfl,rfl,rfl⟩:=trodAll_nil r4
 obtain rfl:args = #[v0,v1,v2,v3,v4]:=by cases args;simp_all
 obtain⟨rfl,rfl⟩:=trodVars_none hV
 have h0k:=h0
 obtain⟨x0,b0,e0⟩:=A8 Tryz.underlying22 Tryz.underlying3 cells3 (hval 0 22 v0 rfl rfl) h0
 have h1k:=h1
 obtain⟨x1,b1,e1⟩:=A8 Tryz.underlying22 Tryz.underlying3 cells3 (hval 1 22 v1 rfl rfl) h1
 have h2k:=h2
 obtain⟨x2,rfl,rfl,rfl,hwf2⟩:=open_int Tryz.underlying3 (hval 2 3 v2 rfl rfl) h2
 have b2:i64 x2:=by
  have e1:IntKind.i64.min = -9223372036854775808:=rfl
  have e2:IntKind.i64.max=9223372036854775807:=rfl
  simp[Lit.wf,e1,e2] at hwf2
  unfold i64
  omega
 have h3k:=h3
 obtain⟨x3,rfl,rfl,rfl,hwf3⟩:=open_int Tryz.underlying3 (hval 3 3 v3 rfl rfl) h3
 have b3:i64 x3:=by
  have e1:IntKind.i64.min = -9223372036854775808:=rfl
  have e2:IntKind.i64.max=9223372036854775807:=rfl
  simp[Lit.wf,e1,e2] at hwf3
  unfold i64
  omega
 have h4k:=h4
 obtain⟨x4,rfl,rfl,rfl,hwf4⟩:=open_int Tryz.underlying3 (hval 4 3 v4 rfl rfl) h4
 have b4:i64 x4:=by
  have e1:IntKind.i64.min = -9223372036854775808:=rfl
  have e2:IntKind.i64.max=9223372036854775807:=rfl
  simp[Lit.wf,e1,e2] at hwf4
  unfold i64
  omega
 clear hA0
 refine((Nz x0 x1 x2 x3 x4 b0 b1 b2 b3 b4).calls W [v0,v1,.int .i64 x2,.int .i64 x3,.int .i64 x4] (.cons e0 (.cons e1 (.cons (.int _ _) (.cons (.int _ _) (.cons (.int _ _) .nil)))))).mono ?_
 rintro e W' ⟨rfl,hk⟩
 refine⟨_,rfl,_,_,_,[],p0++(p1++([]++([]++([]++[])))),[],hW', ?_, ?_, ?_,hk.frame _,fun h=>by cases h⟩
 ·exact trodAll_cons_mk (shut_bool Tryz.underlying4 _) trodAll_mk0
 ·exact trodAll_cons_mk (CZ.trod laidOut (by kernel_rfl) (of_decide_eq_true (by kernel_rfl)) h0k hk) (trodAll_cons_mk (CZ.trod laidOut (by kernel_rfl) (of_decide_eq_true (by kernel_rfl)) h1k hk) (trodAll_cons_mk (CZ.trod laidOut (by kernel_rfl) (of_decide_eq_true (by kernel_rfl)) h2k hk) (trodAll_cons_mk (CZ.trod laidOut (by kernel_rfl) (of_decide_eq_true (by kernel_rfl)) h3k hk) (trodAll_cons_mk (CZ.trod laidOut (by kernel_rfl) (of_decide_eq_true (by kernel_rfl)) h4k hk) trodAll_mk0))))
 ·rfl
noncomputable def laidWorld(os:Os):World:=World.holding Tryz.prog os ⟨#[],#[],[]⟩
theorem laid_met(os:Os)(args:Array Value):laidMet Tryz.prog Rows.orderLowersRow.laid ((laidWorld os).forCall (fun _ _=>0) ⟨#[],args,[]⟩).memory:=
 (LaidIn.of_run (l:=Rows.orderLowersRow.laid) [] 8 (by kernel_rfl) (by kernel_rfl) (by kernel_rfl) (by kernel_rfl)).met
noncomputable abbrev wargs:Array Value:=#[.slice none 0 0,.slice none 0 0,.int .i64 0,.int .i64 0,.int .i64 0]
theorem reads(os:Os){H:Type}(enc:TypeId × Value→H):∃places,DataW.whole enc Tryz.prog ((laidWorld os).forCall (fun _ _=>0) ⟨#[],wargs,[]⟩).memory Tryz.f5.params.toList Rows.orderLowersSpec.vars false wargs.toList 8=some ([.nil,.nil,.lit (.int .i64 0),.lit (.int .i64 0),.lit (.int .i64 0)],[],places):=
 ⟨[],by kernel_rfl⟩
set_option maxRecDepth 100000 in
theorem lifted(os:Os)(started:os.Started)(H:Type)(enc:TypeId × Value→H)(F:Stop.Interp) :
  ReturnsInHanded {} Tryz.checked os 5 .any ((OpenSpec.ofChange Rows.orderLowersSpec).preRow enc Tryz.prog Tryz.f5 Rows.orderLowersRow.domain false Rows.orderLowersRow.laid) (((OpenSpec.ofChange Rows.orderLowersSpec).at F).post enc Tryz.prog Tryz.f5 false true false false):=by
 obtain⟨places,hx⟩:=reads os enc
 refine returnsInHanded_of_row (C:=Tryz.checked) (s:=OpenSpec.ofChange Rows.orderLowersSpec) own started (by kernel_rfl) Tryz.func5
  (witness_row_atRef (enc:=enc) (C:=Tryz.checked) false (laidWorld os) wargs rfl (by kernel_rfl) (by kernel_rfl) (by kernel_rfl)
   (OpenSpec.preRow_of_cond 8 hx (by kernel_rfl) (fun k hk=>by cases hk) (by kernel_rfl) (laid_met os _))) ?_
 intro W base args ds gs before hval hW _ _ _ hL _ _
 exact contract H enc W base args ds gs before hval hW hL
theorem said:Rows.OrderLowersSaid:=
 OpenClaim.holds_of_cond 5 Tryz.f5 rfl rfl rfl rfl rfl rfl rfl ⟨rfl,rfl,rfl,rfl,rfl⟩ rfl rfl rfl rfl rfl (by kernel_rfl) Tryz.func5 (by kernel_rfl)
  (of_decide_eq_true (by kernel_rfl)) (by unfold Func.isWrapper;first|(rw[if_pos (by decide +kernel)];kernel_rfl)|(rw[if_neg (by decide +kernel)];exact⟨rfl,rfl⟩))
  (fun os started H enc _ F=>by rw[OpenClaim.pre_eq_preRow];exact lifted os started H enc F)
end Go.Proofs.YthempfhilcmfnaaGreat.OrderLowers
