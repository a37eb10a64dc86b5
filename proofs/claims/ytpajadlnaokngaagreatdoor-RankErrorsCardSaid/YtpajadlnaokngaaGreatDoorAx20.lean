/- A part of the proof. -/
import Derived.Test.YtpajadlnaokngaaGreatDoorAx19
set_option linter.unusedVariables false
set_option linter.unusedSimpArgs false
set_option linter.unusedSectionVars false
namespace Go.Proofs.YtpajadlnaokngaaGreatDoor
open Go Go.Ax Go.Proofs Tryz
set_option maxRecDepth 100000
set_option maxHeartbeats 16000000
theorem fI(A:List Nd):NN (.agg [.il 12 (a7 A)]):=.agg' (.cons (.il' (aR _)) .nil)
def Lx:AV:=.agg [.int .i64 0,.int .i64 0,.str [],.nsl]
theorem KH:aZ prog [] 66 [Lx] Lx:=Fb bI cQ.nil [] [] 60 rfl (by kernel_rfl)
def w0:AV:=.agg [.bool false,.nsl]
def MN:AV:=.agg [.bool false,.il 1 []]
theorem Jf:aZ prog gz 15 [.int .i64 0] MN:=Fb dB cQ.nil [] [] 60 rfl (by kernel_rfl)
def L4:AV:=.agg [.int .i64 0,.int .i64 0,.str [],.nsl,.int .i64 0,.nsl,.int .i64 0]
section
variable {A:List Nd} (hi:Gz A) (e:bD A≠0)
include hi e
theorem Ij(b:Bool):aZ prog [] 96 [.agg [.il 12 (a7 A)],.nsl,.bool b] (.tup [L4,.int .i64 (bD A)]):=by
 have hV:=yN A hi;have nA:=fI A;have hb:(bD A != 0)=true:=by simpa using e
 generalize bD A=v at *;refine aN bI func96 rfl ?_;refine Rr ?_;refine hV.go ?_ (.cons nA .nil) nn;refine Rt ?_;rw[hb];refine Rt ?_;exact aA nn ⟨rfl,rfl,rfl⟩
theorem Eo:aZ prog [] 46 [.agg [.il 12 (a7 A)],.nsl] (.tup [Lx,.int .i64 (bD A)]):=by
 have hW:=Ij hi e false;have nA:=fI A;generalize bD A=v at *;refine aN bI func46 rfl ?_;refine Rr ?_;refine hW.go ?_ (.cons nA (.cons .nsl (.cons nn .nil))) nn;refine Rt ?_;refine KH.go ?_ (.cons nn .nil) nn;refine Rt ?_;exact aA nn ⟨rfl,rfl,rfl⟩
theorem HZ:aZ prog [] 13 [.agg [.il 12 (a7 A)],.nsl] (.tup [w0,.int .i64 (bD A)]):=by
 have hW:=Eo hi e;have nA:=fI A;have hb:(bD A != 0)=true:=by simpa using e
 generalize bD A=v at *;refine aN bI func13 rfl ?_;refine Rr ?_;refine hW.go ?_ (.cons nA (.cons .nsl .nil)) nn;refine Rt ?_;rw[hb];refine Rt ?_;exact aA nn ⟨rfl,rfl,rfl⟩
theorem Dt:aZ prog [] 17 [.agg [.il 12 (a7 A)],.nsl] (.tup [w0,.int .i64 (bD A)]):=by
 have hW:=Eo hi e;have nA:=fI A;have hb:(bD A != 0)=true:=by simpa using e
 generalize bD A=v at *;refine aN bI func17 rfl ?_;refine Rr ?_;refine hW.go ?_ (.cons nA (.cons .nsl .nil)) nn;refine Rt ?_;rw[hb];refine Rt ?_;exact aA nn ⟨rfl,rfl,rfl⟩
theorem FI:aZ prog [] 49 [.agg [.il 12 (a7 A)]] (.tup [w0,.int .i64 (bD A)]):=by
 have hV:=yN A hi;have nA:=fI A;have hb:(bD A != 0)=true:=by simpa using e
 generalize bD A=v at *;refine aN bI func49 rfl ?_;refine Rr ?_;refine hV.go ?_ (.cons nA .nil) nn;refine Rt ?_;rw[hb];refine Rt ?_;exact aA nn ⟨rfl,rfl,rfl⟩
theorem KT:aZ prog [] 14 [.agg [.il 12 (a7 A)],MN] (.tup [.nsl,.int .i64 (bD A)]):=by
 have hW:=FI hi e;have nA:=fI A;have hb:(bD A != 0)=true:=by simpa using e
 generalize bD A=v at *;refine aN bI func14 rfl ?_;refine Rr ?_;refine hW.go ?_ (.cons nA .nil) nn;refine Rt ?_;rw[hb];refine Rt ?_;exact aA nn ⟨rfl,rfl,rfl⟩
theorem KL:aZ prog [] 16 [.agg [.il 12 (a7 A)],.nsl] (.tup [.nsl,.bool false,.int .i64 (bD A)]):=by
 have hW:=HZ hi e;have nA:=fI A;have hb:(bD A != 0)=true:=by simpa using e
 generalize bD A=v at *;refine aN bI func16 rfl ?_;refine Rr ?_;refine hW.go ?_ (.cons nA (.cons .nsl .nil)) nn;refine Rt ?_;rw[hb];refine Rt ?_;exact aA nn ⟨rfl,rfl,rfl⟩
theorem Dz:aZ prog [] 18 [.agg [.il 12 (a7 A)],.int .i64 1,MN] (.tup [.nsl,.int .i64 (bD A)]):=by
 have hV:=yN A hi;have nA:=fI A;have hb:(bD A != 0)=true:=by simpa using e
 generalize bD A=v at *;refine aN bI func18 rfl ?_;refine Rr ?_;refine hV.go ?_ (.cons nA .nil) nn;refine Rt ?_;rw[hb];refine Rt ?_;exact aA nn ⟨rfl,rfl,rfl⟩
theorem Kf:aZ prog [] 19 [.agg [.il 12 (a7 A)],.int .i64 1,.int .i64 5] (.tup [.nsl,.int .i64 (bD A)]):=by
 have hV:=yN A hi;have nA:=fI A;have hb:(bD A != 0)=true:=by simpa using e
 generalize bD A=v at *;refine aN bI func19 rfl ?_;refine Rr ?_;refine hV.go ?_ (.cons nA .nil) nn;refine Rt ?_;rw[hb];refine Rt ?_;exact aA nn ⟨rfl,rfl,rfl⟩
theorem JY:aZ prog [] 20 [.agg [.il 12 (a7 A)],.int .u64 1,.int .i64 0] (.tup [.nsl,.int .i64 (bD A)]):=by
 have hW:=FI hi e;have nA:=fI A;have hb:(bD A != 0)=true:=by simpa using e
 generalize bD A=v at *;refine aN bI func20 rfl ?_;refine Rr ?_;refine hW.go ?_ (.cons nA .nil) nn;refine Rt ?_;rw[hb];refine Rt ?_;exact aA nn ⟨rfl,rfl,rfl⟩
end
theorem CC{A:List Nd}(h:yD A):Gz A:=⟨h.ok,h.val,h.vals,fun x hx=>by have:=h.vlen x hx;omega,fun x hx=>by have:=h.klen x hx;omega⟩
theorem HU(l:List Int)(at_ how n:Int)(hl:∀x∈l,i64 x)(ha:i64 at_)(hh:i64 how)(hn:i64 n)(hLv:aZ prog gz 12 [] (.bool true)) :
  aZ prog gz 4 [.il 1 (aX l),.int .i64 at_,.int .i64 how,.int .i64 n] (.bool true):=by
 have nl:NN (.il 1 (aX l)):=.il' (aS l);refine aN dB func4 rfl ?_;refine Rr ?_;refine Ks l hl fun A hA hAl=>?_
 refine Rt ?_;refine aF.goG0 (H0 A at_ how n (F6 hA) hAl ha hh hn) ?_ (.cons (fI A) (.cons nn (.cons nn (.cons nn .nil))));rintro r mm k ⟨B,h1,h2,h3,rfl,rfl,rfl⟩;have tB:yD B:=GV (LB:=LB) (fun s hs=>IF hs) h1 om;have vB:=CC tB;have nB:=fI B;refine⟨_,.same _ nB, ?_⟩;refine Rt ?_;refine(yN B vB).goG ?_ (.cons nB .nil) nn;refine Rt ?_;by_cases e:bD B=0
 ·rw[e];refine Rr ?_;refine hLv.use dB .nil nn ?_;refine Rr ?_;exact aA nn ⟨rfl,rfl,rfl⟩
 ·have g1:=HZ vB e;have g2:=KT vB e;have g3:=KL vB e;have g4:=Dt vB e;have g5:=Dz vB e;have g6:=Kf vB e;have g7:=JY vB e;have hb:(bD B == 0)=false:=by simpa using e
  generalize bD B=v at *;rw[hb];refine Rt ?_;refine g1.goG ?_ (.cons nB (.cons .nsl .nil)) nn;refine Rt ?_;refine Jf.use dB (.cons nn .nil) nn ?_;refine Rt ?_;refine g2.goG ?_ (.cons nB (.cons nn .nil)) nn;refine Rt ?_;refine g3.goG ?_ (.cons nB (.cons .nsl .nil)) nn;refine Rt ?_;refine g4.goG ?_ (.cons nB (.cons .nsl .nil)) nn;refine Rt ?_;refine Jf.use dB (.cons nn .nil) nn ?_;refine Rt ?_;refine g5.goG ?_ (.cons nB (.cons nn (.cons nn .nil))) nn;refine Rt ?_;refine g6.goG ?_ (.cons nB (.cons nn (.cons nn .nil))) nn;refine Rt ?_;refine g7.goG ?_ (.cons nB (.cons nn (.cons nn .nil))) nn;refine Rt ?_;have hvv:(v == v)=true:=by simp
  repeat(rw[hvv];refine Rr ?_)
  refine hLv.use dB .nil nn ?_;refine Rr ?_;exact aA nn ⟨rfl,rfl,rfl⟩
end Go.Proofs.YtpajadlnaokngaaGreatDoor
namespace Go.Ax
open Go
noncomputable def Lq{α:Type}(l:List (Nat × α))(j:Nat)(K:α->Prop):Prop:=
 List.rec (motive:=fun _=>Prop) False (fun p _ ih=>Prod.rec (motive:=fun _=>Prop) (fun i v=>Bool.rec (motive:=fun _=>Prop) ih (K v) (Nat.beq i j)) p) l
theorem DM{α:Type}(j:Nat)(K:α->Prop):∀l:List (Nat × α),Lq l j K=opt (lk l j) K
 | []=>rfl
 | (i,v)::r=>by
  have ih:=DM j K r
  show Bool.rec (motive:=fun _=>Prop) (Lq r j K) (K v) (Nat.beq i j)=opt (lk ((i,v)::r) j) K
  rw[ih];simp only[lk];cases Nat.beq i j<;>rfl
noncomputable def Lu{α:Type}(l:List (Nat × α))(j:Nat)(v:α):(List (Nat × α)->Prop)->Prop:=
 List.rec (motive:=fun _=>(List (Nat × α)->Prop)->Prop) (fun K=>K [(j,v)]) (fun p r ih=>fun K=>Prod.rec (motive:=fun _=>Prop) (fun i u=>Bool.rec (motive:=fun _=>Prop) (ih fun l=>K ((i,u)::l)) (K ((i,v)::r)) (Nat.beq i j)) p) l
theorem IM{α:Type}(j:Nat)(v:α):∀(l:List (Nat × α)) (K:List (Nat × α)->Prop),Lu l j v K=Bu l j v K
 | [],K=>rfl
 | (i,u)::r,K=>by
  have ih:=IM j v r fun l=>K ((i,u)::l)
  show Bool.rec (motive:=fun _=>Prop) (Lu r j v fun l=>K ((i,u)::l)) (K ((i,v)::r)) (Nat.beq i j)=Bu ((i,u)::r) j v K
  rw[ih];simp only[Bu];cases Nat.beq i j<;>rfl
def MB(v:Value)(K:AV->Prop):Prop:=
 match v with
 | .string s=>qH s.data.toList fun l=>K (.str l)
 | v=>opt (qI v) K
noncomputable def iP(Γ:List (Nat × AV))(sl:List (Nat × AV))(x:Operand)(K:AV->Prop):Prop:=
 Operand.rec (motive:=fun _=>Prop) (fun t=>Lq sl t K) (fun v=>MB v K) (fun g=>Lq Γ g fun v=>K (.ip v)) (fun f=>K (.fn (.func f) [] [])) x
theorem FG(Γ sl:List (Nat × AV))(x:Operand)(K:AV->Prop):iP Γ sl x K=iA Γ sl x K:=by
 cases x with
 | tmp t=>exact DM t K sl
 | const v=>cases v<;>rfl
 | global g=>exact DM g (fun v=>K (.ip v)) Γ
 | func f=>rfl
theorem xF:iP=iA:=by funext Γ sl x K;exact FG Γ sl x K
def Lk(Γ sl:List (Nat × AV))(K:AV->Prop)(a b:Operand)(c:AV):Prop:=match c with
 | .bool c=>GW c (iA Γ sl a K) (iA Γ sl b K)
 | _=>False
def LD(P:Program)(mem:aK)(nx:Nat)(src dst:TypeId)(a:AV)(K:AV->aK->Nat->Prop):Prop:=match P.underlying dst with
  | some (.slice _)=>pF true P mem nx src dst a K
  | _=>FZ true P mem src dst a fun v=>K v mem nx
section
variable (P:Program) (Γ:List (Nat × AV)) (H:Hk) (sl:List (Nat × AV)) (mem:aK) (nx:Nat) (K:AV->aK->Nat->Prop) (Kp:Value->aK->Nat->Prop)
noncomputable def Ge(x:Operand):Prop:=iP Γ sl x fun v=>K v mem nx
noncomputable def Jm(c a b:Operand):Prop:=iP Γ sl c (Lk Γ sl (fun v=>K v mem nx) a b)
noncomputable def LA(t:TypeId)(x:Operand):Prop:=iP Γ sl x fun v=>KE P mem nx t v K
noncomputable def Jn(t:TypeId)(x:Operand):Prop:=iP Γ sl x fun p=>Ch P mem t p fun v=>K v mem nx
noncomputable def Gk(t:TypeId)(x y:Operand):Prop:=iP Γ sl x fun p=>iP Γ sl y fun v=>Au P mem t p v fun m=>K (.tup []) m nx
noncomputable def Kn(x:Operand):Prop:=iP Γ sl x fun p=>opt (G3 p) fun v=>K v mem nx
noncomputable def K9(op:BinOp)(t:TypeId)(x y:Operand):Prop:=iP Γ sl x fun a=>iP Γ sl y fun b=>JC true P op t x y a b fun v=>K v mem nx
noncomputable def MU(op:UnOp)(x:Operand):Prop:=iP Γ sl x fun a=>Lr true op a fun v=>K v mem nx
noncomputable def Jj(src dst:TypeId)(x:Operand):Prop:=iP Γ sl x fun a=>LD P mem nx src dst a K
noncomputable def MY(t:TypeId)(x:Operand)(f:Nat):Prop:=iP Γ sl x fun p=>mM P t f p fun v=>K v mem nx
noncomputable def MV(t:TypeId)(x:Operand)(f:Nat):Prop:=iP Γ sl x fun p=>AZ P t f p fun v=>K v mem nx
noncomputable def MS(t:TypeId)(x ix:Operand):Prop:=iP Γ sl x fun p=>iP Γ sl ix fun i=>mL true P mem t p i fun v=>K v mem nx
noncomputable def MT(t:TypeId)(x ix:Operand):Prop:=iP Γ sl x fun p=>iP Γ sl ix fun i=>Aw true P t p i fun v=>K v mem nx
noncomputable def MQ(x:Operand)(i:Nat):Prop:=iP Γ sl x fun p=>opt (oJ p i) fun v=>K v mem nx
noncomputable def Jl(t:TypeId)(x ix:Operand)(ok:Bool):Prop:=iP Γ sl x fun p=>iP Γ sl ix fun i=>opt (rS P mem t p i ok) fun v=>K v mem nx
noncomputable def MP(t:TypeId)(x y z:Operand):Prop:=iP Γ sl x fun p=>iP Γ sl y fun k=>iP Γ sl z fun v=>kN P mem t p k v fun m=>K (.tup []) m nx
noncomputable def Ll(x:Operand):Prop:=iP Γ sl x fun v=>opt (quo v) fun y=>Kp y mem nx
def KC(t:TypeId)(parts:Array (Nat × Operand)):Prop:=l7 Γ sl parts.toList fun ps=>AR P t ps fun v=>K v mem nx
def Mc(t:TypeId)(len:Nat)(parts:Array (Nat × Operand)):Prop:=l7 Γ sl parts.toList fun ps=>lA P mem nx t len ps K
noncomputable def I7(ce:Callee)(args:Array Operand)(ts:Array TypeId):Prop:=
 Callee.rec (motive:=fun _=>Prop) (fun f=>Es P Γ sl f args.toList (fun v=>K v mem nx) fun F l=>H.call F l mem nx K Kp) (fun _ _=>False) (fun b=>rR true P Γ sl mem nx b args.toList ts.toList K) ce
noncomputable def LC(c:Call):Prop:=Call.rec (motive:=fun _=>Prop) (fun ce args ts=>I7 P Γ H sl mem nx K Kp ce args ts) c
def gY(op:Op):Prop:=B3 true P Γ H sl mem nx op K Kp
noncomputable def LJ(op:Op):Prop:=
 Op.rec (motive:=fun _=>Prop)
  (Ge Γ sl mem nx K) (Ge Γ sl mem nx K) (Jm Γ sl mem nx K) (fun t=>Al P mem nx t K) (LA P Γ sl mem nx K) (KC P Γ sl mem nx K) (Mc P Γ sl mem nx K)
  (MP P Γ sl mem nx K) (Jn P Γ sl mem nx K) (Gk P Γ sl mem nx K) (fun g=>gY P Γ H sl mem nx K Kp (.ready g)) (fun g=>gY P Γ H sl mem nx K Kp (.waits g)) (Kn Γ sl mem nx K)
  (fun op t x y _=>K9 P Γ sl mem nx K op t x y) (fun op _ x=>MU Γ sl mem nx K op x) (Jj P Γ sl mem nx K) (fun t x=>gY P Γ H sl mem nx K Kp (.sliceToArrayPointer t x)) (fun t x=>gY P Γ H sl mem nx K Kp (.makeInterface t x))
  (fun a b c=>gY P Γ H sl mem nx K Kp (.makeFunc a b c)) (fun a b=>gY P Γ H sl mem nx K Kp (.makeMap a b)) (fun a b=>gY P Γ H sl mem nx K Kp (.makeChan a b)) (fun a b c=>gY P Γ H sl mem nx K Kp (.makeSlice a b c))
  (fun a b c d e=>gY P Γ H sl mem nx K Kp (.slice a b c d e)) (MY P Γ sl mem nx K) (MV P Γ sl mem nx K) (MS P Γ sl mem nx K) (MT P Γ sl mem nx K) (Jl P Γ sl mem nx K) (MP P Γ sl mem nx K)
  (fun a b c=>gY P Γ H sl mem nx K Kp (.mapEntry a b c)) (fun a b c d=>gY P Γ H sl mem nx K Kp (.entryStore a b c d)) (fun a b=>gY P Γ H sl mem nx K Kp (.range a b)) (fun a b=>gY P Γ H sl mem nx K Kp (.next a b)) (fun a=>gY P Γ H sl mem nx K Kp (.entry a))
  (fun a b c d=>gY P Γ H sl mem nx K Kp (.typeAssert a b c d)) (MQ Γ sl mem nx K) (LC P Γ H sl mem nx K Kp) (fun c=>gY P Γ H sl mem nx K Kp (.go c)) (fun c=>gY P Γ H sl mem nx K Kp (.defer c)) (Ll Γ sl mem nx Kp)
  (fun a b=>gY P Γ H sl mem nx K Kp (.send a b)) (fun a b c=>gY P Γ H sl mem nx K Kp (.recv a b c)) (fun a b=>gY P Γ H sl mem nx K Kp (.select a b)) op
theorem Jy(op:Op):LJ P Γ H sl mem nx K Kp op=B3 true P Γ H sl mem nx op K Kp:=by
 cases op with
 | call c=>
  obtain⟨ce,args,ts⟩:=c;cases ce<;>rfl
 | pick c a b=>simp only[LJ,Jm,xF];first|done|rfl
 | convert a b c=>simp only[LJ,Jj,xF];first|done|rfl
 | _=>first|rfl|(simp only[LJ,Ge,LA,Jn,Gk,Kn,K9,MU,MY,MV,MS,MT,MQ,Jl,MP,Ll,xF];first|done|rfl)
end
noncomputable def KA(sl:List (Nat × AV))(nt:Nat)(d:Option Nat)(v:AV)(mem:aK)(nx:Nat)(K:St->Prop):Prop:=
 Option.rec (motive:=fun _=>Prop) (K ⟨sl,mem,nx,nt⟩) (fun d=>Bool.rec (motive:=fun _=>Prop) False (Lu sl d v fun sl=>K ⟨sl,mem,nx,nt⟩) (Nat.blt d nt)) d
theorem Ia(sl:List (Nat × AV))(m0:aK)(n0 nt:Nat)(d:Option Nat)(v:AV)(mem:aK)(nx:Nat)(K:St->Prop):KA sl nt d v mem nx K=kY ⟨sl,m0,n0,nt⟩ d v mem nx K:=by
 cases d with
 | none=>rfl
 | some d=>
  show Bool.rec (motive:=fun _=>Prop) False (Lu sl d v _) (Nat.blt d nt)=kL (Nat.blt d nt) (Bu sl d v _)
  rw[IM];cases Nat.blt d nt<;>rfl
noncomputable def Hq(ops:List Oper)(sl:List (Nat × AV))(g:Option (Nat × Bool))(yes no:Prop):Prop:=
 Option.rec (motive:=fun _=>Prop) yes (fun p=>nQ ops sl (some p) yes no) g
theorem G9(ops:List Oper)(sl:List (Nat × AV))(g:Option (Nat × Bool))(yes no:Prop):Hq ops sl g yes no=nQ ops sl g yes no:=by cases g<;>rfl
section
variable (P:Program) (Γ:List (Nat × AV)) (H:Hk)
noncomputable def Jo(ops:List Oper)(Kp:Value->St->Prop)(ih:St->Prop)(sl:List (Nat × AV))(mem:aK)(nx nt:Nat)(o:Oper):Prop:=
 Oper.rec (motive:=fun _=>Prop) (fun dst op _ _ _ g=>Hq ops sl g (LJ P Γ H sl mem nx (fun v mem nx=>KA sl nt dst v mem nx ih) (fun x mem nx=>Kp x ⟨sl,mem,nx,nt⟩) op) (KA sl nt dst (.tup []) mem nx ih)) o
noncomputable def I4(ops:List Oper)(K:St->Prop)(Kp:Value->St->Prop)(l:List Oper):St->Prop:=
 List.rec (motive:=fun _=>St->Prop) K (fun o r ih=>fun s=>St.rec (motive:=fun _=>Prop) (fun sl mem nx nt=>Jo P Γ H ops Kp ih sl mem nx nt o) s) l
theorem E9(ops:List Oper)(K:St->Prop)(Kp:Value->St->Prop):∀(l:List Oper) (s:St),I4 P Γ H ops K Kp l s=Db true P Γ H ops l s K Kp
 | [],s=>rfl
 | o::r,s=>by
  have ih:I4 P Γ H ops K Kp r=fun s=>Db true P Γ H ops r s K Kp:=funext fun s=>E9 ops K Kp r s
  obtain⟨sl,mem,nx,nt⟩:=s
  show Jo P Γ H ops Kp (I4 P Γ H ops K Kp r) sl mem nx nt o=_
  rw[ih];obtain⟨dst,op,ty,pos,aft,g⟩:=o
  show Hq ops sl g _ _=nQ ops sl g _ _
  rw[G9,Jy];simp only[Ia sl mem nx nt];first|done|rfl
def LY(k:St->Prop)(Q:Exit->St->Prop)(e:Exit)(s:St):Prop:=match e with
 | .normal=>k s
 | e=>Q e s
def L9(id:Nat)(Q:Exit->St->Prop)(e:Exit)(s:St):Prop:=match e with
 | .exit i=>match Nat.beq i id with
  | true=>Q .normal s
  | false=>Q (.exit i) s
 | e=>Q e s
def L0(Q:Exit->St->Prop)(e:Exit)(s:St):Prop:=match e with
 | .goto _=>False
 | e=>Q e s
def Kv(x y:Prop)(v:AV):Prop:=match v with
 | .bool b=>GW b x y
 | _=>False
noncomputable def ML(id:Nat)(ops:Array Oper)(draw:Bool)(s:St)(Q:Exit->St->Prop):Prop:=
 Bool.rec (motive:=fun _=>Prop) (I4 P Γ H ops.toList (Q .normal) (fun x s'=>Q (.panic [pe x]) s') ops.toList s) (p9 true P Γ H (.region id ops true) s Q) draw
noncomputable def MO(c:Operand)(x y:St->(Exit->St->Prop)->Prop)(s:St)(Q:Exit->St->Prop):Prop:=
 St.rec (motive:=fun _=>Prop) (fun sl _ _ _=>iP Γ sl c (Kv (x s Q) (y s Q))) s
noncomputable def u6(c:Code):St->(Exit->St->Prop)->Prop:=
 Code.rec (motive:=fun _=>St->(Exit->St->Prop)->Prop)
  (fun s Q=>Q .normal s)
  (ML P Γ H)
  (fun _ _ ihx ihy=>fun s Q=>ihx s (LY (fun s'=>ihy s' Q) Q))
  (fun c _ _ ihx ihy=>MO Γ c ihx ihy)
  (fun id _ ih=>fun s Q=>ih s (L9 id Q))
  (fun b _=>fun s Q=>H.loop b s Q)
  (fun g ps ca cb _ _=>fun s Q=>p9 true P Γ H (.rangeFunc g ps ca cb) s Q)
  (fun i=>fun s Q=>Q (.exit i) s)
  (fun _ ih=>fun s Q=>ih s (L0 Q))
  (fun _=>fun s Q=>Q .normal s)
  (fun _=>fun _ _=>False)
  (fun s Q=>Q .ret s)
  (fun _=>fun _ _=>False) c
theorem Ed:∀(c:Code) (s:St) (Q:Exit->St->Prop),u6 P Γ H c s Q=p9 true P Γ H c s Q:=by
 intro c
 induction c with
 | seq x y ihx ihy=>
  intro s Q
  show u6 P Γ H x s (LY (fun s'=>u6 P Γ H y s' Q) Q)=_
  rw[ihx];have:(fun s'=>u6 P Γ H y s' Q)=fun s'=>p9 true P Γ H y s' Q:=funext fun s'=>ihy s' Q
  rw[this];rfl
 | cond c x y ihx ihy=>
  intro s Q;obtain⟨sl,mem,nx,nt⟩:=s
  show iP Γ sl c (Kv (u6 P Γ H x _ Q) (u6 P Γ H y _ Q))=_
  rw[ihx,ihy,FG];rfl
 | block id c ih=>intro s Q;exact ih s _
 | scope c ih=>intro s Q;exact ih s _
 | region id ops draw=>
  intro s Q;cases draw with
  | true=>rfl
  | false=>exact E9 P Γ H _ _ _ _ s
 | _=>intro s Q;rfl
end
def LX(F:Nat):List (Nat × List AV × AV)->Bool
 | []=>false
 | (G,_,_)::r=>match Nat.beq G F with
  | true=>true
  | false=>LX F r
def Ly(ts:List (Nat × List AV × AV))(F:Nat)(args:List AV)(mem:aK)(K:AV->Prop)(N:Prop):Prop:=match LX F ts with
 | false=>N
 | true=>Du (F5 60 mem) args (fun as'=>IQ ts F as' K N) N
theorem Jh{F:Nat}{args:List AV}{K:AV->Prop}{N:Prop}:∀{tb:List (Nat × List AV × AV)},IQ tb F args K N->N∨∃r,(F,args,r)∈tb/\K r
 | [],h=>.inl h
 | (G,as',r)::t,h=>by
  simp only[IQ] at h;have hr:IQ t F args K N->N∨∃r',(F,args,r')∈(G,as',r)::t/\K r':=fun h=>(Jh h).imp id fun⟨r',h1,h2⟩=>⟨r',Mw _ h1,h2⟩
  split at h
  ·rename_i hG;split at h
   ·rename_i he;have e1:=Nat.eq_of_beq_eq_true hG;have e2:=fJ he;subst e1 e2;exact .inr ⟨r,M8 ..,h⟩
   ·exact hr h
  ·exact hr h
def cY(P:Program)(Γ:List (Nat × AV))(ts:List (Nat × List AV × AV)):Prop:=∀e∈ts,aZ P Γ e.1 e.2.1 e.2.2/\Sc e.2.2
theorem cY.nil{P:Program}{Γ:List (Nat × AV)}:cY P Γ []:=fun e h=>by cases h
theorem cY.cons{P:Program}{Γ:List (Nat × AV)}{F:Nat}{xs:List AV}{r:AV}{t:List (Nat × List AV × AV)}(h:aZ P Γ F xs r)(h1:Sc r)(ht:cY P Γ t):cY P Γ ((F,xs,r)::t):=by
 intro e he;rcases Mj.1 he with rfl|he
 ·exact⟨h,h1⟩
 ·exact ht e he
theorem LU{P:Program}{Γ:List (Nat × AV)}(hΓ:∀p∈Γ,NN p.2){F:Nat}{args:List AV}{mem:aK}{nx:Nat}{K:AV->aK->Nat->Prop}{N:Prop}{ts:List (Nat × List AV × AV)}(ht:cY P Γ ts)(h:Ly ts F args mem (fun r=>K r mem nx) N):N∨aF P Γ F args mem nx K:=by
 unfold Ly at h;split at h
 ·exact .inl h
 ·rcases tY (fun v K h=>Gh 60 v K h) h with h|⟨as',h1,h⟩
  ·exact .inl h
  ·rcases Jh h with h|⟨r,h2,h⟩
   ·exact .inl h
   ·obtain⟨g1,g2⟩:=ht _ h2;exact .inr (g1.lend hΓ (JU 60 h1) g2 h)
def JW:List (AV × AV)->List (AV × AV)->Bool
 | [],[]=>true
 | (a,b)::r,(c,d)::t=>hZ a c && (hZ b d && JW r t)
 | _,_=>false
theorem Ez:∀{l m:List (AV × AV)},JW l m=true->l=m
 | [],[],_=>rfl
 | (a,b)::r,(c,d)::t,h=>by
  simp only[JW,Mg] at h;rw[k7 h.1,k7 h.2.1,Ez h.2.2]
 | [],_::_,h=>by cases h
 | _::_,[],h=>by cases h
def Ex:aK->aK->Bool
 | [],[]=>true
 | (i,a)::r,(j,b)::t=>Nat.beq i j && ((match a,b with
  | .row t1 s1 xs,.row t2 s2 ys=>Nat.beq t1 t2 && (Nat.beq s1 s2 && kM xs ys)
  | .mapb es,.mapb es'=>JW es es'
  | _,_=>false) && Ex r t)
 | _,_=>false
theorem BL:∀{l m:aK},Ex l m=true->l=m
 | [],[],_=>rfl
 | (i,a)::r,(j,b)::t,h=>by
  simp only[Ex,Mg] at h;obtain⟨h1,h2,h3⟩:=h;rw[Nat.eq_of_beq_eq_true h1,BL h3];split at h2
  ·simp only[Mg] at h2;rw[Nat.eq_of_beq_eq_true h2.1,Nat.eq_of_beq_eq_true h2.2.1,fJ h2.2.2]
  ·rw[Ez h2]
  ·cases h2
 | [],_::_,h=>by cases h
 | _::_,[],h=>by cases h
structure Xf where
 F:Nat
 args:List AV
 mem:aK
 nx:Nat
 r:AV
 m:aK
 n:Nat
def Xf.ok(P:Program)(Γ:List (Nat × AV))(x:Xf):Prop:=aF P Γ x.F x.args x.mem x.nx fun r m n=>r=x.r/\m=x.m/\n=x.n
def K4:List Xf->Nat->List AV->aK->Nat->(AV->aK->Nat->Prop)->Prop->Prop
 | [],_,_,_,_,_,N=>N
 | x::t,F,args,mem,nx,K,N=>match Nat.beq x.F F with
  | true=>match Nat.beq x.nx nx && (kM args x.args && Ex mem x.mem) with
   | true=>K x.r x.m x.n
   | false=>K4 t F args mem nx K N
  | false=>K4 t F args mem nx K N
theorem Hd{P:Program}{Γ:List (Nat × AV)}{F:Nat}{args:List AV}{mem:aK}{nx:Nat}{K:AV->aK->Nat->Prop}{N:Prop}:∀{t:List Xf},(∀x∈t,x.ok P Γ)->K4 t F args mem nx K N->N∨aF P Γ F args mem nx K
 | [],_,h=>.inl h
 | x::t,ht,h=>by
  have h2:∀x∈t,x.ok P Γ:=fun e he=>ht e (Mw _ he)
  simp only[K4] at h;split at h
  ·rename_i hF;split at h
   ·rename_i he;simp only[Mg] at he;have e1:=Nat.eq_of_beq_eq_true hF;have e2:=Nat.eq_of_beq_eq_true he.1;have e3:=fJ he.2.1;have e4:=BL he.2.2;subst e1 e2 e3 e4;exact .inr ((ht x (M8 ..)).mono fun r m n ⟨h1,h2,h3⟩=>by rw[h1,h2,h3];exact h)
   ·exact Hd h2 h
  ·exact Hd h2 h
def De(f:AV->List Nat->List Nat):List AV->List Nat->List Nat
 | [],acc=>acc
 | a::r,acc=>De f r (f a acc)
def u3:Nat->AV->List Nat->List Nat
 | 0,_,acc=>acc
 | n+1,v,acc=>match v with
  | .ptr id _ _=>id::acc
  | .sl id _ _=>id::acc
  | .mp id=>id::acc
  | .yld id=>id::acc
  | .ip v=>u3 n v acc
  | .il _ xs=>De (u3 n) xs acc
  | .fn _ a b=>De (u3 n) b (De (u3 n) a acc)
  | .ifc _ v=>u3 n v acc
  | .agg xs=>De (u3 n) xs acc
  | .tup xs=>De (u3 n) xs acc
  | _=>acc
def Kl:List (AV × AV)->List Nat->List Nat
 | [],acc=>acc
 | (a,b)::r,acc=>Kl r (u3 60 b (u3 60 a acc))
def Lp:List (Nat × AV)->List Nat->List Nat
 | [],acc=>acc
 | (_,a)::r,acc=>Lp r (u3 60 a acc)
def La(b:AB)(acc:List Nat):List Nat:=match b with
 | .row _ _ xs=>De (u3 60) xs acc
 | .mapb es=>Kl es acc
 | .loop sl _ _ _ _ _ _=>Lp sl acc
def Kz:aK->List Nat->List Nat
 | [],acc=>acc
 | (_,b)::r,acc=>Kz r (La b acc)
def Ho(nx:Nat)(m:aK):Nat->List Nat->List Nat->List Nat
 | 0,todo,dL=>todo++dL
 | _+1,[],dL=>dL
 | f+1,i::t,dL=>match Nat.ble nx i with
  | false=>Ho nx m f t dL
  | true=>match CP i dL with
   | true=>Ho nx m f t dL
   | false=>match lk m i with
    | none=>Ho nx m f t dL
    | some b=>Ho nx m f (La b t) (i::dL)
def C0(dL:List Nat):aK->(aK->Prop)->Prop
 | [],K=>K []
 | (i,b)::r,K=>match CP i dL with
  | true=>C0 dL r fun m=>K ((i,b)::m)
  | false=>C0 dL r K
def MX(nx:Nat)(K:AV->aK->Nat->Prop)(r:AV)(m:aK)(n:Nat):Prop:=
 vP nx m [] fun m1 rest=>qH (Ho nx m 100000 (u3 60 r (Kz rest [])) []) fun dL=>C0 dL m1.reverse fun m2=>u0 m2 rest fun m=>K r m n
theorem Ar{dL:List Nat}:∀{m:aK} {K:aK->Prop},C0 dL m K->∃m',List.Sublist m' m/\K m'
 | [],K,h=>⟨[],.slnil,h⟩
 | (i,b)::r,K,h=>by
  simp only[C0] at h;split at h
  ·obtain⟨m',h1,h2⟩:=Ar h;exact⟨_,h1.cons_cons _,h2⟩
  ·obtain⟨m',h1,h2⟩:=Ar h;exact⟨_,h1.cons _,h2⟩
theorem GS{P:Program}{Γ:List (Nat × AV)}{F:FuncId}{args:List AV}{mem:aK}{nx:Nat}{K:AV->aK->Nat->Prop}{Kp:Value->aK->Nat->Prop}(h:dN P Γ F args mem nx (MX nx K) Kp):dN P Γ F args mem nx K Kp:=by
 refine⟨fun X D ρ w vs hD hm hv=>(h.run X D ρ w vs hD hm hv).mono ?_⟩;rintro e w' ⟨m',n',ρ',hn,hm',hext,hend⟩;rcases hend with⟨r,v,rfl,hq,hr⟩|⟨x,rfl,hq⟩
 ·obtain⟨m0,rest,rfl,hq⟩:=yL hq;rw[N9,List.reverse_reverse] at hq;obtain⟨m2,hs,hq⟩:=Ar (iT.1 hq);have hq:=fG.1 hq;have hsub:List.Sublist (m2++rest) (m0++rest):=hs.append (List.Sublist.refl rest);have hin:∀p∈m2++rest,p∈m0++rest:=fun p hp=>hsub.subset hp
  have hnd:((m2++rest).map (·.1)).Nodup:=hm'.nod.sublist (hsub.map _);have ho:∀b,¬OX X ρ' (m0++rest) b->¬OX X ρ' (m2++rest) b:=by
   rintro b h (h'|⟨p,hp,h1,h2⟩)
   ·exact h (.inl h')
   ·exact h (.inr ⟨p,hin p hp,h1,h2⟩)
  exact⟨m2++rest,n',ρ',hn,hm'.sub hin hnd,⟨hext.le,hext.agree,hext.size,hext.keep,fun p h=>hext.fresh p (hin p h),hext.env⟩,.inl ⟨r,v,rfl,hq,hr.mono (fun _ _=>rfl) (fun _ h=>h) fun b _ h=>⟨ho b h,rfl⟩⟩⟩
 ·exact⟨m',n',ρ',hn,hm',hext,.inr ⟨x,rfl,hq⟩⟩
theorem Gf(P:Program)(Γ:List (Nat × AV))(H:Hk):u6 P Γ H=p9 true P Γ H:=funext fun c=>funext fun s=>funext fun Q=>Ed P Γ H c s Q
noncomputable def Gr(P:Program)(Γ:List (Nat × AV))(H:Hk)(tx:List Xf)(ts tb:List (Nat × List AV × AV))(dl pl gl:List Nat)(F:Nat)(args:List AV)(mem:aK)(nx:Nat)(K:AV->aK->Nat->Prop)(Kp:Value->aK->Nat->Prop):Prop:=
 K4 tx F args mem nx K (IQ tb F args (fun r=>K r mem nx) (Ly ts F args mem (fun r=>K r mem nx) (match Nat.beq F YF with
    | false=>match P.funcs[F]? with
     | some fn=>match fn.body with
      | some c=>match CP F dl with
       | false=>match CP F pl with
        | false=>match CP F gl with
         | false=>lH fn.ntmps args mem nx fun s=>u6 P Γ H c s (xV P fn.results.toList K Kp)
         | true=>lH fn.ntmps args mem nx fun s=>u6 P Γ H c s (xV P fn.results.toList (MX nx K) Kp)
        | true=>lH fn.ntmps args mem nx fun s=>u6 P Γ H c s (xV P fn.results.toList (MK nx K) Kp)
       | true=>lH fn.ntmps args mem nx fun s=>CH true P Γ H c s (Eh P Γ H fn.results.toList K Kp)
      | none=>False
     | none=>False
    | true=>D4 P Γ H args mem nx K)))
def Li(H:Hk)(c:Code)(Q:Exit->St->Prop)(e:Exit)(s':St):Prop:=match e with
 | .normal=>H.loop c s' Q
 | e=>Q e s'
noncomputable def t7(P:Program)(Γ:List (Nat × AV))(tx:List Xf)(ts tb:List (Nat × List AV × AV))(dl pl gl:List Nat)(n:Nat):Hk:=
 Nat.rec (motive:=fun _=>Hk) ⟨fun _ _ _ _ _ _=>False,fun _ _ _=>False⟩ (fun _ H=>⟨Gr P Γ H tx ts tb dl pl gl,fun c s Q=>u6 P Γ H c s (Li H c Q)⟩) n
theorem Bb(P:Program)(Γ:List (Nat × AV))(hΓ:∀p∈Γ,NN p.2){tx:List Xf}{ts tb:List (Nat × List AV × AV)}(hx':∀x∈tx,x.ok P Γ)(hs':cY P Γ ts)(ht:cQ P Γ tb)(dl pl gl:List Nat):∀n B,qY P Γ B (t7 P Γ tx ts tb dl pl gl n) /\
  ∀c s Q,(t7 P Γ tx ts tb dl pl gl n).loop c s Q->∀rd X ds D ρ a w,(∀i,D i->i<B)->SR Γ X ds ρ (dn D B s.nx) s a w->B<=s.nx->tC rd ds c ->
   Code.roundsIn (FW rd) 0 P c (fun e a' w'=>∃(s':St) (ρ':Nat->b8),Q e s'/\B<=s'.nx/\SR Γ X ds ρ' (dn D B s'.nx) s' a' w'/\Ext D ρ s.mem w ρ' (dn D B s'.nx) s'.mem w') n a w:=by
 intro n
 induction n with
 | zero=>exact fun B=>⟨⟨fun _ _ _ _ _ _ h=>h.elim,fun _ _ _ h=>h.elim⟩,fun _ _ _ h=>h.elim⟩
 | succ n ih=>
  intro B;have hr:∀c s Q,(t7 P Γ tx ts tb dl pl gl (n+1)).loop c s Q->∀rd X ds D ρ a w,(∀i,D i->i<B)->SR Γ X ds ρ (dn D B s.nx) s a w->B<=s.nx->tC rd ds c ->
    Code.roundsIn (FW rd) 0 P c (fun e a' w'=>∃(s':St) (ρ':Nat->b8),Q e s'/\B<=s'.nx/\SR Γ X ds ρ' (dn D B s'.nx) s' a' w'/\Ext D ρ s.mem w ρ' (dn D B s'.nx) s'.mem w') (n+1) a w:=by
   intro c s Q h rd X ds D ρ a w hD hs hB hno;have h:u6 P Γ (t7 P Γ tx ts tb dl pl gl n) c s (Li (t7 P Γ tx ts tb dl pl gl n) c Q):=h;rw[Ed] at h;have h':=(cO (ih B).1 c s _ h).run rd X ds D ρ a w hD hs hB hno;rw[roundsIn_succ];refine wpIn_mono h' ?_;rintro e a1 w1 ⟨s1,ρ1,hq,hB1,hs1,hext⟩;cases e with
   | normal=>
    have key:=(ih B).2 c s1 Q hq rd X ds D ρ1 a1 w1 hD hs1 hB1 hno;refine oX n a1 w1 _ _ ?_ key;rintro e a2 w2 ⟨s2,ρ2,h1,h2,h3,h4⟩;exact⟨s2,ρ2,h1,h2,h3,hext.trans h4⟩
   | exit id=>exact⟨s1,ρ1,hq,hB1,hs1,hext⟩
   | goto l=>exact⟨s1,ρ1,hq,hB1,hs1,hext⟩
   | ret=>exact⟨s1,ρ1,hq,hB1,hs1,hext⟩
   | panic ch=>exact⟨s1,ρ1,hq,hB1,hs1,hext⟩
   | outgrown=>exact⟨s1,ρ1,hq,hB1,hs1,hext⟩
  refine⟨⟨fun F args mem nx K Kp h=>?_,fun c s Q h=>⟨fun rd X ds D ρ a w hD hs hB hno=>wpIn_loop_rounds (n+1) (hr c s Q h rd X ds D ρ a w hD hs hB hno.loop)⟩⟩,hr⟩
  replace h:Gr P Γ (t7 P Γ tx ts tb dl pl gl n) tx ts tb dl pl gl F args mem nx K Kp:=h
  simp only[Gr,Gf] at h;rcases Hd (K:=K) hx' h with h0|h'
  rotate_left
  ·exact h'.toP
  clear h;rcases En (K:=K) hΓ ht h0 with h'|h'
  rotate_left
  ·exact h'.toP
  clear h0;rcases LU (K:=K) hΓ hs' h' with h|h'
  rotate_left
  ·exact h'.toP
  split at h
  ·rename_i hF;split at h
   ·rename_i fn hf;split at h
    ·rename_i c hc;split at h
     ·split at h
      ·split at h
       ·exact fZ hf hc ((cO (ih nx).1 _ _ _ (fF h)).mono fun _ _ h=>s6 h) hF
       ·exact GS (fZ hf hc ((cO (ih nx).1 _ _ _ (fF h)).mono fun _ _ h=>s6 h) hF)
      ·exact Ck hΓ (fZ hf hc ((cO (ih nx).1 _ _ _ (fF h)).mono fun _ _ h=>s6 h) hF)
     ·exact nR hf hc (v7 (fun B=>(ih B).1) nx _ _ _ (fF h)) hF
    ·exact h.elim
   ·exact h.elim
  ·rename_i hF;have e:=Nat.eq_of_beq_eq_true hF;subst e;exact BE (fun B=>(ih B).1) h
theorem xQ{P:Program}{Γ:List (Nat × AV)}(hΓ:∀p∈Γ,NN p.2){tx:List Xf}{ts tb:List (Nat × List AV × AV)}(hx':∀x∈tx,x.ok P Γ)(hs':cY P Γ ts)(ht:cQ P Γ tb){F:FuncId}{args:List AV}{mem:aK}{nx:Nat}{Q:AV->aK->Nat->Prop}(dl pl gl:List Nat)(n:Nat)(h:(t7 P Γ tx ts tb dl pl gl n).call F args mem nx Q fun _ _ _=>False):aF P Γ F args mem nx Q:=
 ((Bb P Γ hΓ hx' hs' ht dl pl gl n nx).1.call F args mem nx Q _ h).toC fun _ _ _ h=>h
theorem a8{P:Program}{Γ:List (Nat × AV)}{F:FuncId}{args:List AV}{mem:aK}{nx:Nat}{want:AV}(hΓ:∀p∈Γ,NN p.2){tx:List Xf}{ts tb:List (Nat × List AV × AV)}(hx':∀x∈tx,x.ok P Γ)(hs':cY P Γ ts)(ht:cQ P Γ tb)(dl pl gl:List Nat)(n:Nat)
  (hc:(pW (ID mem) && (pU mem && (sP nx nx (ID mem) && Nat.ble nx nx)))=true)
  (h:((t7 P Γ tx ts tb dl pl gl n).call F args mem nx (fun r m _=>Ls mem want r m) fun _ _ _=>False)=True):aF P Γ F args mem nx fun r m k=>r=want/\m=mem/\k=nx:=by
 refine aF.turn hΓ ((xQ hΓ hx' hs' ht dl pl gl n (by rw[h];trivial)).mono fun r m k hk=>?_);unfold Ls at hk;split at hk
 ·rename_i hb;unfold Lw at hb;split at hb
  ·rename_i v hv;split at hb
   ·rename_i he;have e:=k7 he;subst e;have hn:(mem.map (·.1)).Nodup:=by
     simp only[Mg] at hc;exact dK hc.2.1
    exact cA (ID mem) hc (oU _ hb (FL hn)) (g8 30 r v hv).cv ⟨rfl,rfl,rfl⟩
   ·cases hb
  ·cases hb
 ·exact hk.elim
theorem dT{P:Program}{Γ:List (Nat × AV)}:∀x∈([]:List Xf),x.ok P Γ:=fun x h=>by cases h
end Go.Ax
