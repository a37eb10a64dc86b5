/- For every input (four slices of ints), refuterlaw34.GroupSame returns true, and its arguments read behind the call as they read before (the card GroupSameCardSaid, the full form). Conditions: the package-level variables that the row lists hold, when the call begins, what the program's text lays (the card ties them to it); no bound on sizes. -/
import Derived.Test.YtobknjmfgjaehaaGreatDoorAx19
import Derived.Test.YtobknjmfgjaehaaGreatDoorCards
import Derived.Test.YtobknjmfgjaehaaGreatDoorTie
import Derived.Lib.LaidIn
set_option linter.unusedVariables false
set_option linter.unusedSimpArgs false
set_option linter.unusedSectionVars false
namespace Go.Proofs.YtobknjmfgjaehaaGreatDoor
open Go Go.Ax Go.Proofs Tryz
def jH:AV:=.agg [.int .i64 1,.str [],.int .i64 0,.int .i64 100,.nsl,.nsl,.nsl,.nsl,.int .i64 0,.int .i64 0,.str [],.nsl]
def oC:List Nat:=[76,62]
def oE:List Nat:=[61,21,169,109,8,29,47,62,37]
def oF:List Nat:=[]
def qQ(e:Nat × List AV × AV):Prop:=a8 prog gz e.1 e.2.1 e.2.2
theorem q7{e:Nat × List AV × AV}{t:List (Nat × List AV × AV)}(h:qQ e)(ht:g8 prog gz t)(h1:wL (frz 30 [] []) e.2.1=some e.2.1:=by rfl)(h2:frz 30 [] [] e.2.2=some e.2.2:=by rfl):g8 prog gz (e::t):=g8.cons h h1 h2 ht
set_option maxRecDepth 1000000
def jT:Nat × List AV × AV:=(61,[.agg [.il 12 [jH]]],.int .i64 0)
theorem CZ:qQ jT:=Go.Ax.d7 gR (oB) (tP.nil) (g8.nil) oC oE oF 500 rfl (by kernel_rfl)
theorem fQ:tP prog gz (jT::[]):=tP.cons CZ (by first|exact .int _ _|exact .bool _|exact .str _) tP.nil
theorem Hj:g8 prog gz (jT::[]):=q7 CZ g8.nil
set_option maxRecDepth 1000000
def lO:Nat × List AV × AV:=(21,[.agg [.il 12 [jH]],.il 1 [.int .i64 50]],.tup [.agg [.int .i64 0,.int .i64 50,.str [],.nsl],.int .i64 0])
theorem I9:qQ lO:=Go.Ax.d7 gR (oB) (fQ) (Hj) oC oE oF 500 rfl (by kernel_rfl)
theorem H3:g8 prog gz (lO::(jT::[])):=q7 I9 Hj
set_option maxRecDepth 1000000
def l5:Nat × List AV × AV:=(21,[.agg [.il 12 [jH]],.il 1 [.int .i64 9]],.tup [.agg [.int .i64 0,.int .i64 9,.str [],.nsl],.int .i64 0])
theorem IN:qQ l5:=Go.Ax.d7 gR (oB) (fQ) (H3) oC oE oF 500 rfl (by kernel_rfl)
theorem H6:g8 prog gz (l5::(lO::(jT::[]))):=q7 IN H3
set_option maxRecDepth 1000000
def mY:Nat × List AV × AV:=(169,[.agg [.il 12 [jH]],.il 1 [.int .i64 25]],.tup [.nsl,.int .i64 0])
theorem Ic:qQ mY:=Go.Ax.d7 gR (oB) (fQ) (H6) oC oE oF 500 rfl (by kernel_rfl)
theorem Hd:g8 prog gz (mY::(l5::(lO::(jT::[])))):=q7 Ic H6
set_option maxRecDepth 1000000
def nT:Nat × List AV × AV:=(109,[.agg [.il 12 [jH]],.il 1 [.int .i64 25]],.tup [.il 1 [.il 1 [.int .i64 0],.il 1 [.int .i64 12],.il 1 [.int .i64 24]],.int .i64 0])
theorem JB:qQ nT:=Go.Ax.d7 gR (oB) (fQ) (Hd) oC oE oF 500 rfl (by kernel_rfl)
theorem G7:g8 prog gz (nT::(mY::(l5::(lO::(jT::[]))))):=q7 JB Hd
set_option maxRecDepth 1000000
def oS:Nat × List AV × AV:=(169,[.agg [.il 12 [jH]],.il 1 [.int .i64 12]],.tup [.nsl,.int .i64 0])
theorem I4:qQ oS:=Go.Ax.d7 gR (oB) (fQ) (G7) oC oE oF 500 rfl (by kernel_rfl)
theorem H2:g8 prog gz (oS::(nT::(mY::(l5::(lO::(jT::[])))))):=q7 I4 G7
set_option maxRecDepth 1000000
def qK:Nat × List AV × AV:=(109,[.agg [.il 12 [jH]],.il 1 [.int .i64 12]],.tup [.il 1 [.il 1 [.int .i64 0],.il 1 [.int .i64 6],.il 1 [.int .i64 11]],.int .i64 0])
theorem IK:qQ qK:=Go.Ax.d7 gR (oB) (fQ) (H2) oC oE oF 500 rfl (by kernel_rfl)
theorem Hi:g8 prog gz (qK::(oS::(nT::(mY::(l5::(lO::(jT::[]))))))):=q7 IK H2
set_option maxRecDepth 1000000
def qX:Nat × List AV × AV:=(169,[.agg [.il 12 [jH]],.il 1 [.int .i64 11]],.tup [.nsl,.int .i64 0])
theorem Im:qQ qX:=Go.Ax.d7 gR (oB) (fQ) (Hi) oC oE oF 500 rfl (by kernel_rfl)
theorem HS:g8 prog gz (qX::(qK::(oS::(nT::(mY::(l5::(lO::(jT::[])))))))):=q7 Im Hi
set_option maxRecDepth 1000000
def uA:Nat × List AV × AV:=(109,[.agg [.il 12 [jH]],.il 1 [.int .i64 11]],.tup [.il 1 [.il 1 [.int .i64 0],.il 1 [.int .i64 5],.il 1 [.int .i64 10]],.int .i64 0])
theorem IQ:qQ uA:=Go.Ax.d7 gR (oB) (fQ) (HS) oC oE oF 500 rfl (by kernel_rfl)
theorem Hy:g8 prog gz (uA::(qX::(qK::(oS::(nT::(mY::(l5::(lO::(jT::[]))))))))):=q7 IQ HS
set_option maxRecDepth 1000000
def wQ:Nat × List AV × AV:=(169,[.agg [.il 12 [jH]],.il 1 [.int .i64 10]],.tup [.nsl,.int .i64 0])
theorem I7:qQ wQ:=Go.Ax.d7 gR (oB) (fQ) (Hy) oC oE oF 500 rfl (by kernel_rfl)
theorem Ho:g8 prog gz (wQ::(uA::(qX::(qK::(oS::(nT::(mY::(l5::(lO::(jT::[])))))))))):=q7 I7 Hy
set_option maxRecDepth 1000000
def sG:Nat × List AV × AV:=(109,[.agg [.il 12 [jH]],.il 1 [.int .i64 10]],.tup [.il 1 [.il 1 [.int .i64 0],.il 1 [.int .i64 5],.il 1 [.int .i64 9]],.int .i64 0])
theorem Fs:qQ sG:=Go.Ax.d7 gR (oB) (fQ) (Ho) oC oE oF 500 rfl (by kernel_rfl)
theorem E1:g8 prog gz (sG::(wQ::(uA::(qX::(qK::(oS::(nT::(mY::(l5::(lO::(jT::[]))))))))))):=q7 Fs Ho
set_option maxRecDepth 1000000
def vA:Nat × List AV × AV:=(169,[.agg [.il 12 [jH]],.il 1 [.int .i64 9]],.tup [.nsl,.int .i64 0])
theorem Fq:qQ vA:=Go.Ax.d7 gR (oB) (fQ) (E1) oC oE oF 500 rfl (by kernel_rfl)
theorem Fi:g8 prog gz (vA::(sG::(wQ::(uA::(qX::(qK::(oS::(nT::(mY::(l5::(lO::(jT::[])))))))))))):=q7 Fq E1
set_option maxRecDepth 1000000
def yC:Nat × List AV × AV:=(109,[.agg [.il 12 [jH]],.il 1 [.int .i64 9]],.tup [.il 1 [.il 1 [.int .i64 0],.il 1 [.int .i64 4],.il 1 [.int .i64 8]],.int .i64 0])
theorem GW:qQ yC:=Go.Ax.d7 gR (oB) (fQ) (Fi) oC oE oF 500 rfl (by kernel_rfl)
theorem D2:g8 prog gz (yC::(vA::(sG::(wQ::(uA::(qX::(qK::(oS::(nT::(mY::(l5::(lO::(jT::[]))))))))))))):=q7 GW Fi
set_option maxRecDepth 1000000
def BI:Nat × List AV × AV:=(169,[.agg [.il 12 [jH]],.il 1 [.int .i64 8]],.tup [.nsl,.int .i64 0])
theorem F7:qQ BI:=Go.Ax.d7 gR (oB) (fQ) (D2) oC oE oF 500 rfl (by kernel_rfl)
theorem Fd:g8 prog gz (BI::(yC::(vA::(sG::(wQ::(uA::(qX::(qK::(oS::(nT::(mY::(l5::(lO::(jT::[])))))))))))))):=q7 F7 D2
set_option maxRecDepth 1000000
def DE:Nat × List AV × AV:=(109,[.agg [.il 12 [jH]],.il 1 [.int .i64 8]],.tup [.il 1 [.il 1 [.int .i64 0],.il 1 [.int .i64 4],.il 1 [.int .i64 7]],.int .i64 0])
theorem Gd:qQ DE:=Go.Ax.d7 gR (oB) (fQ) (Fd) oC oE oF 500 rfl (by kernel_rfl)
theorem Fa:g8 prog gz (DE::(BI::(yC::(vA::(sG::(wQ::(uA::(qX::(qK::(oS::(nT::(mY::(l5::(lO::(jT::[]))))))))))))))):=q7 Gd Fd
set_option maxRecDepth 1000000
def Gm:Nat × List AV × AV:=(169,[.agg [.il 12 [jH]],.il 1 [.int .i64 7]],.tup [.nsl,.int .i64 0])
theorem F1:qQ Gm:=Go.Ax.d7 gR (oB) (fQ) (Fa) oC oE oF 500 rfl (by kernel_rfl)
theorem D3:g8 prog gz (Gm::(DE::(BI::(yC::(vA::(sG::(wQ::(uA::(qX::(qK::(oS::(nT::(mY::(l5::(lO::(jT::[])))))))))))))))):=q7 F1 Fa
set_option maxRecDepth 1000000
def KV:Nat × List AV × AV:=(109,[.agg [.il 12 [jH]],.il 1 [.int .i64 7]],.tup [.il 1 [.il 1 [.int .i64 0],.il 1 [.int .i64 3],.il 1 [.int .i64 6]],.int .i64 0])
theorem Gq:qQ KV:=Go.Ax.d7 gR (oB) (fQ) (D3) oC oE oF 500 rfl (by kernel_rfl)
theorem J4:g8 prog gz (KV::(Gm::(DE::(BI::(yC::(vA::(sG::(wQ::(uA::(qX::(qK::(oS::(nT::(mY::(l5::(lO::(jT::[]))))))))))))))))):=q7 Gq D3
set_option maxRecDepth 1000000
set_option maxHeartbeats 16000000
def QW:AV:=.agg [.il 12 [jH]]
def Gz(n:Int):AV:=.agg [.il 1 [.int .i64 n],.int .i64 1,.int .i64 0,.int .i64 0]
def L8:AV:=.agg [.il 1 [.int .i64 7],.int .i64 1,.int .i64 0,.int .i64 0,.il 4 [Gz 9,Gz 50]]
def Qf:AV:=.fn (.func 37) [.agg [.int .i64 0,.int .i64 7]] []
theorem My(n:Int):NN (Gz n):=.agg' (.cons (.il' (.cons nn .nil)) (.cons nn (.cons nn (.cons nn .nil))))
theorem Mr:NN L8:=.agg' (.cons (.il' (.cons nn .nil)) (.cons nn (.cons nn (.cons nn (.cons (.il' (.cons (My 9) (.cons (My 50) .nil))) .nil)))))
theorem Gc:a8 prog gz 36 [QW,.il 4 [Gz 50,Gz 9],Qf,.int .i64 100] (.tup [.il 5 [L8],.int .i64 0]):=Go.Ax.d7 gR oB fQ J4 oC oE oF 500 rfl (by kernel_rfl)
theorem LP:a8 prog gz 8 [L8] (.str [102,97,105,108,101,100,32,48,32,48,58,32,55]):=Go.Ax.d7 gR oB tP.nil g8.nil oC oE oF 500 rfl (by kernel_rfl)
theorem Lw:a8 prog gz 10 [.il 1 [.int .i64 7],.il 1 [.int .i64 7]] (.bool true):=Go.Ax.d7 gR oB tP.nil g8.nil oC oE oF 500 rfl (by kernel_rfl)
theorem Mb:a8 prog gz 10 [.il 1 [.int .i64 9],.il 1 [.int .i64 9]] (.bool true):=Go.Ax.d7 gR oB tP.nil g8.nil oC oE oF 500 rfl (by kernel_rfl)
theorem Q9(n:Int):NN (.il 1 [.int .i64 n]):=.il' (.cons nn .nil)
theorem MH:a8 prog gz 12 [] (.bool true):=by
 refine aM gR func12 rfl ?_;refine Rt ?_;have nG:NN (.il 5 [L8]):=.il' (.cons Mr .nil);have n0:NN jH:=.agg' (.cons nn (.cons nn (.cons nn (.cons nn (.cons nn (.cons nn (.cons nn (.cons nn (.cons nn (.cons nn (.cons nn (.cons nn .nil))))))))))));refine a8.drop Gc gR (.cons (.agg' (.cons (.fzR (id:=0) (ys:=[jH]) rfl rfl (.cons (.same n0) .nil) rfl) .nil)) (.cons (.fzR (id:=6) (ys:=[Gz 50,Gz 9]) rfl rfl (.cons (.agg (.cons (.fzR (id:=4) (ys:=[.int .i64 50]) rfl rfl (.same (.cons nn .nil)) rfl) (.s (.s (.s .nil))))) (.cons (.agg (.cons (.fzR (id:=5) (ys:=[.int .i64 9]) rfl rfl (.same (.cons nn .nil)) rfl) (.s (.s (.s .nil))))) .nil)) rfl) (.cons (.same _ (.fn _ _ _ (fun j c h=>by
   match j,h with
   | 0,h=>simp at h;subst h;exact .agg' (.cons nn (.cons nn .nil))
   | j+1,h=>simp at h) (by simp))) (.s .nil)))) (.tup' (.cons nG (.cons nn .nil))) ?_
 refine Rt ?_;refine a8.lend Lw gR (.cons (.same _ (Q9 7)) (.cons (.fzR (id:=7) (ys:=[.int .i64 7]) rfl rfl (.same (.cons nn .nil)) rfl) .nil)) (.bool _) ?_;refine Rr ?_;refine a8.lend Mb gR (.cons (.same _ (Q9 9)) (.cons (.fzR (id:=8) (ys:=[.int .i64 9]) rfl rfl (.same (.cons nn .nil)) rfl) .nil)) (.bool _) ?_;refine Rr ?_;refine LP.use gR (.cons Mr .nil) (.str _) ?_;refine Rr ?_;exact aB (.bool _) ⟨rfl,rfl,rfl⟩
theorem Jj(l m raw n:List Int)(hl:∀x∈l,i64 x)(hm:∀x∈m,i64 x)(hr:∀x∈raw,i64 x)(hn:∀x∈n,i64 x)(hrl:raw.length<=17592186043904)(hnl:n.length<=17592186043904) :
  a8 prog gz 5 [.il 1 (aT l),.il 1 (aT m),.il 1 (aT raw),.il 1 (aT n)] (.bool true):=IB l m raw n hl hm hr hn hrl hnl MH
end Go.Proofs.YtobknjmfgjaehaaGreatDoor
namespace Go.Proofs.YtobknjmfgjaehaaGreatDoor.GroupSame
open Go.ChangeShapes Go.WideShapes Go.ChangeAt Go.RowKit Go.Lib Go.Ax
set_option maxHeartbeats 16000000
theorem own:ownKnob Tryz.prog.godebug=none:=by kernel_rfl
theorem laidOut:laidOutB Tryz.prog=true:=by kernel_rfl
theorem cells3:Tryz.prog.cellsOf 3=1:=by kernel_rfl
theorem bytes3:Tryz.prog.bytesOf 3=8:=by kernel_rfl
theorem gNameP:Tryz.prog.globalNamed "internal/strconv.uint64pow10" = some 0:=by kernel_rfl
theorem gNameB:Tryz.prog.globalNamed "math/bits.deBruijn32tab" = some 1:=by kernel_rfl
theorem gNameC:Tryz.prog.globalNamed "math/bits.deBruijn64tab" = some 2:=by kernel_rfl
theorem gTypeP:(Tryz.prog.globals[0]?).map (·.type)=some 213:=by kernel_rfl
theorem gTypeB:(Tryz.prog.globals[1]?).map (·.type)=some 238:=by kernel_rfl
theorem gTypeC:(Tryz.prog.globals[2]?).map (·.type)=some 239:=by kernel_rfl
theorem cellsU:Tryz.prog.cellsOf 142=1:=by kernel_rfl
theorem cellsB:Tryz.prog.cellsOf 5=1:=by kernel_rfl
theorem cellsP:Tryz.prog.cellsOf 213=20:=by kernel_rfl
theorem cellsQ:Tryz.prog.cellsOf 238=32:=by kernel_rfl
theorem cellsR:Tryz.prog.cellsOf 239=64:=by kernel_rfl
def pows:List Int:=[1,10,100,1000,10000,100000,1000000,10000000,100000000,1000000000,10000000000,100000000000,1000000000000,10000000000000,100000000000000,1000000000000000,10000000000000000,100000000000000000,1000000000000000000,10000000000000000000]
def tabB:List Int:=[0,1,28,2,29,14,24,3,30,22,20,15,25,17,4,8,31,27,13,23,21,19,16,7,26,12,18,6,11,5,10,9]
def tabC:List Int:=[0,1,56,2,57,49,28,3,61,58,42,50,38,29,17,4,62,47,59,36,45,43,51,22,53,39,33,30,24,18,12,5,63,55,48,27,60,41,37,16,46,35,44,21,52,32,23,11,54,26,40,15,34,20,31,10,25,14,19,9,13,8,7,6]
theorem vars{W:World}(h:laidMetH Tryz.prog Rows.groupSameRow.laid W):∀p∈gz,VR (fun _=>⟨0,0,0⟩) (fun _=>False) (OX (fun _=>False) (fun _=>⟨0,0,0⟩) []) W (.ip p.2) (.pointer (some ⟨p.1,0,none⟩)):=by
 have h:laidMet Tryz.prog Rows.groupSameRow.laid W:=h
 have hP:=tabIs_of_head (k:=.u64) (zs:=pows) gNameP gTypeP Tryz.underlying213 Tryz.underlying142 cellsU cellsP h.tail.tail
 have hB:=tabIs_of_head (k:=.u8) (zs:=tabB) gNameB gTypeB Tryz.underlying238 Tryz.underlying5 cellsB cellsQ h
 have hC:=tabIs_of_head (k:=.u8) (zs:=tabC) gNameC gTypeC Tryz.underlying239 Tryz.underlying5 cellsB cellsR h.tail
 intro p hp
 simp only[gz,List.mem_cons,List.not_mem_nil,or_false] at hp
 rcases hp with rfl|rfl|rfl
 ·exact vF gNameP hP
 ·exact vF gNameB hB
 ·exact vF gNameC hC
set_option maxRecDepth 100000 in
theorem contract(H:Type)(enc:TypeId × Value→H)(W:World)(base:Nat)(args:Array Value)(ds gs:List (DataW H))(before:List MemPlace)
  (hval:∀(j:Nat) t v,Tryz.f5.params[j]? = some t→args[j]? = some v→Value.okWide Tryz.prog W .any base t v)
  (hW:DataW.Whole enc Tryz.prog Tryz.f5.params.toList Rows.groupSameSpec.vars false W args.toList ds gs before) (hL:laidMetH Tryz.prog Rows.groupSameRow.laid W) (vt:List TypeId) (hsz:(DataW.weightsEach Tryz.prog (Tryz.f5.params.toList++vt) (ds++gs)).all (· ≤ reachBytes)=true) :
  Calls Tryz.prog 5 args W fun e W'=>∃v,e = .returned v∧Rows.groupSameSpec.post enc Tryz.prog Tryz.f5 false true false false W args v W':=by
 have hW':=hW
 obtain⟨p,q,hA0,hV,rfl,hfz,hnd⟩:=hW
 have hA:DataW.TrodAll enc Tryz.prog W 0 (fun _=>true) true Tryz.f5.params.toList args.toList ds p:=hA0
 rw[Tryz.params5] at hA hval
 rw[Tryz.params5] at hsz
 obtain⟨v0,vs0,d0,ds0,p0,q0,hargs,rfl,rfl,h0,r0⟩:=trodAll_cons hA
 obtain⟨v1,vs1,d1,ds1,p1,q1,rfl,rfl,rfl,h1,r1⟩:=trodAll_cons r0
 obtain⟨v2,vs2,d2,ds2,p2,q2,rfl,rfl,rfl,h2,r2⟩:=trodAll_cons r1
 obtain⟨v3,vs3,d3,ds3,p3,q3,rfl,rfl,rfl,h3,r3⟩:=trodAll_cons r2
 obtain⟨rfl,rfl,rfl⟩:=trodAll_nil r3
 obtain rfl:args = #[v0,v1,v2,v3]:=by cases args;simp_all
 obtain⟨rfl,rfl⟩:=trodVars_none hV
 have hw2:(d2.weights Tryz.prog 22).all (· ≤ reachBytes)=true:=xF (jX (jX (hsz)))
 have hw3:(d3.weights Tryz.prog 22).all (· ≤ reachBytes)=true:=xF (jX (jX (jX (hsz))))
 have h0k:=h0
 obtain⟨x0,b0,e0⟩:=BF Tryz.underlying22 Tryz.underlying3 cells3 (hval 0 22 v0 rfl rfl) h0
 have h1k:=h1
 obtain⟨x1,b1,e1⟩:=BF Tryz.underlying22 Tryz.underlying3 cells3 (hval 1 22 v1 rfl rfl) h1
 have h2k:=h2
 obtain⟨x2,b2,e2,s2⟩:=AZ Tryz.underlying22 Tryz.underlying3 cells3 bytes3 (hval 2 22 v2 rfl rfl) h2 hw2
 have h3k:=h3
 obtain⟨x3,b3,e3,s3⟩:=AZ Tryz.underlying22 Tryz.underlying3 cells3 bytes3 (hval 3 22 v3 rfl rfl) h3 hw3
 clear hA0
 refine((Jj x0 x1 x2 x3 b0 b1 b2 b3 s2 s3).callsG W [v0,v1,v2,v3] (vars hL) (.cons e0 (.cons e1 (.cons e2 (.cons e3 .nil))))).mono ?_
 rintro e W' ⟨rfl,hk⟩
 refine⟨_,rfl,_,_,_,[],p0++(p1++(p2++(p3++[]))),[],hW', ?_, ?_, ?_,hk.frame _,fun h=>by cases h⟩
 ·exact trodAll_cons_mk (shut_bool Tryz.underlying4 _) trodAll_mk0
 ·exact trodAll_cons_mk (Bq.trod laidOut (by kernel_rfl) (of_decide_eq_true (by kernel_rfl)) h0k hk) (trodAll_cons_mk (Bq.trod laidOut (by kernel_rfl) (of_decide_eq_true (by kernel_rfl)) h1k hk) (trodAll_cons_mk (Bq.trod laidOut (by kernel_rfl) (of_decide_eq_true (by kernel_rfl)) h2k hk) (trodAll_cons_mk (Bq.trod laidOut (by kernel_rfl) (of_decide_eq_true (by kernel_rfl)) h3k hk) trodAll_mk0)))
 ·rfl
noncomputable def laidWorld(os:Os):World:=
 let w0:=World.holding Tryz.prog os ⟨#[],#[],[]⟩
 let put (h:Array Obj) (g:Nat) (cs:Array Value):Array Obj:=h.modify g fun
  | .cells _ t frozen=>.cells cs t frozen
  | o=>o
 let nums (d:DataW Unit):Array Value:=match d with
  | .agg ds=>(ds.map fun
   | .lit (.int k n)=>Value.int k n
   | _=>.bool false).toArray
  | _=>#[]
 let h1:=put w0.heap 0 (nums Rows.laid_internal_strconv_uint64pow10)
 let h2:=put h1 1 (nums Rows.laid_math_bits_deBruijn32tab)
 let h3:=put h2 2 (nums Rows.laid_math_bits_deBruijn64tab)
 { w0 with heap:=h3 }
theorem laid_met(os:Os)(args:Array Value):laidMet Tryz.prog Rows.groupSameRow.laid ((laidWorld os).forCall (fun _ _=>0) ⟨#[],args,[]⟩).memory:=
 (LaidIn.of_run (l:=Rows.groupSameRow.laid) [0,1,2] 8 (by kernel_rfl) (by kernel_rfl) (by kernel_rfl) (by kernel_rfl)).met
noncomputable abbrev wargs:Array Value:=#[.slice none 0 0,.slice none 0 0,.slice none 0 0,.slice none 0 0]
theorem reads(os:Os){H:Type}(enc:TypeId × Value→H):∃places,DataW.whole enc Tryz.prog ((laidWorld os).forCall (fun _ _=>0) ⟨#[],wargs,[]⟩).memory Tryz.f5.params.toList Rows.groupSameSpec.vars false wargs.toList 8=some ([.nil,.nil,.nil,.nil],[],places):=
 ⟨[],by kernel_rfl⟩
set_option maxRecDepth 100000 in
theorem lifted(os:Os)(started:os.Started)(H:Type)(enc:TypeId × Value→H)(F:Stop.Interp) :
  ReturnsInHanded {} Tryz.checked os 5 .any ((OpenSpec.ofChange Rows.groupSameSpec).preRow enc Tryz.prog Tryz.f5 Rows.groupSameRow.domain false Rows.groupSameRow.laid) (((OpenSpec.ofChange Rows.groupSameSpec).at F).post enc Tryz.prog Tryz.f5 false true false false):=by
 obtain⟨places,hx⟩:=reads os enc
 refine returnsInHanded_of_row (C:=Tryz.checked) (s:=OpenSpec.ofChange Rows.groupSameSpec) own started (by kernel_rfl) Tryz.func5
  (witness_row_atRef (enc:=enc) (C:=Tryz.checked) false (laidWorld os) wargs rfl (by kernel_rfl) (by kernel_rfl) (by kernel_rfl)
   (OpenSpec.preRow_of_cond 8 hx (by kernel_rfl) (fun k hk=>by cases hk) (by kernel_rfl) (laid_met os _))) ?_
 intro W base args ds gs before hval hW _ _ hsz hL _ _
 exact contract H enc W base args ds gs before hval hW hL _ hsz
theorem said:Rows.GroupSameSaid:=
 OpenClaim.holds_of_cond 5 Tryz.f5 rfl rfl rfl rfl rfl rfl rfl ⟨rfl,rfl,rfl,rfl,rfl⟩ rfl rfl rfl rfl rfl (by as_aux_lemma=>kernel_rfl) Tryz.func5 (by unfold joinedFacts;simp only[Bool.and_eq_true];(repeat' apply And.intro);all_goals (as_aux_lemma=>kernel_rfl))
  (of_decide_eq_true (by as_aux_lemma=>kernel_rfl)) (by unfold Func.isWrapper;first|(rw[if_pos (by as_aux_lemma=>decide +kernel)];as_aux_lemma=>kernel_rfl)|(rw[if_neg (by as_aux_lemma=>decide +kernel)];exact⟨rfl,rfl⟩))
  (fun os started H enc _ F=>by rw[OpenClaim.pre_eq_preRow];exact lifted os started H enc F)
theorem plain(f:FuncId)(fn:Func)(hf:Tryz.pinned.checked.prog.funcNamed "refuter/refuterlaw34.GroupSame" = some f)(hfn:Tryz.pinned.checked.prog.funcs[f]? = some fn) :
  true=Tryz.pinned.checked.prog.looks []∧∀(j:Nat) t,fn.params[j]? = some t→Tryz.pinned.checked.prog.wantsStandIn t=false:=by
 obtain rfl:f=5:=Option.some.inj ((show Tryz.prog.funcNamed "refuter/refuterlaw34.GroupSame" = some 5 by kernel_rfl).symm.trans hf) |>.symm
 obtain rfl:fn=Tryz.f5:=(Option.some.inj (Tryz.func5.symm.trans hfn)).symm
 refine⟨by kernel_rfl,fun j t ht=>?_⟩
 rw[Tryz.params5] at ht
 have hTI:Tryz.prog.wantsStandIn 22=false:=by kernel_rfl
 have hm:=Array.mem_of_getElem? ht
 simp at hm
 repeat' (first|(rw[(hm:t=22)];exact hTI)|rcases hm with hm|hm)
theorem card:Rows.GroupSameCardSaid:=
 Claim7.holds_tied_plain_at .later [] _ _ _ _ said (fun _ h=>by cases h) (by kernel_rfl) (fun _ h=>by cases h) groupSame_row_tie rfl ⟨rfl,rfl⟩ (by kernel_rfl) rfl plain (by kernel_rfl)
end Go.Proofs.YtobknjmfgjaehaaGreatDoor.GroupSame
