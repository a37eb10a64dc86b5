/- A part of the proof. -/
import Derived.Test.YthempfhilcmfnaaGreatAx18
set_option linter.unusedVariables false
set_option linter.unusedSimpArgs false
namespace Go.Proofs.YthempfhilcmfnaaGreat
open Go Go.Ax Go.Proofs Tryz
set_option maxRecDepth 100000
set_option maxHeartbeats 16000000
theorem uC{e sz size bytes len n k:Nat}(h1:Nat.beq sz size=true)(hb:Nat.beq bytes 8=true)(h2:len=n)(h3:len+k<=17592186044416) :
  (Nat.beq e e && (Nat.beq sz size && (Nat.beq len n && (Nat.ble ((len+k)*bytes) 140737488355328 && Nat.ble (len+k) 9223372036854775807))))=true:=by
 have hb:=Rw hb;subst hb;rw[h1,h2,Ru (by omega),Ru (by omega)];simp
theorem Nk{n:Nat}{s m:Int}(hn:Nat.beq n 24=true)(hs:0<=s)(h:24*s<=m):decide ((n:Int)*s<=m)=true:=by
 have hn:=Rw hn;subst hn;simp;omega
theorem Ja{mem:aS}{σ:List (Nat × Nat)}{xs ys:List AV}{i:Nat}{x y:AV}(hs:pS mem σ xs ys)(h:Da mem σ x y):pS mem σ (xs.set i x) (ys.set i y):=by
 refine⟨by simp;exact hs.1,fun j a b ha hb=>?_⟩;rw[TA] at ha hb;split at ha
 ·rename_i e;rw[Rx e] at hb;split at ha
  ·split at hb
   ·cases ha;cases hb;exact h
   ·cases hb
  ·cases ha
 ·rename_i e;rw[Rp e] at hb;exact hs.2 j a b ha hb
theorem jL{mem:aS}{σ:List (Nat × Nat)}{id len:Nat}{t:TypeId}{sz:Nat}{xs ys:List AV}(h1:lk mem id=some (.row t sz xs))(h2:lk σ id=none)(e:len=xs.length)(h:xs=ys)(h5:g9 ys):Cv mem σ (.sl id 0 len) (.il sz ys):=by
 subst h e;exact .fz' (id:=id) h1 h2 (by omega) (by rw[SS];exact SA (by omega)) h5
theorem Mh:∀args w,(callFunc 11 args).run prog w = .ok (.enter 11 args) w:=enters_of func11 (by kernel_rfl) rfl
theorem JH(l:List (List Int))(h0:0<l.length)(hl:l.length<=5120030000001)(hok:oZ l) :
  aM prog [] 23 [.sl 0 0 l.length,.fn (.func 11) [] []] [(0,.row 22 1 (aZ l))] 1 fun r m n=>r = .tup []/\n=1/\∃z,z.Perm l/\OJ z/\m=[(0,.row 22 1 (aZ z))]:=by
 have ho:=JY l;have h:=EA (P:=prog) (F:=23) (t:=22)
  (fun enc h1 cf hO g cb blk off cap d w eg hcmp hH hblk hsz=>Tryz.slices_SortFunc enc h1 cf hO g cb blk off cap d w eg hcmp hH hblk hsz) Mh (fun p:List Int=>AV.il 1 (aI p)) l h0 (by omega) (fun p _=>rfl) (fun p _=>.il' (aG p)) dE ⟨ho.1,ho.2.1,ho.2.2⟩ (fun x hx y _=>Qh x y (by have:=hok x hx;omega))
 refine h.mono ?_;rintro r m n ⟨h1,h2,z,⟨h3,h4⟩,h5⟩;exact⟨h1,h2,z,h3,h4,h5⟩
theorem Iw:a8 prog [] 23 [.il 1 [],.fn (.func 11) [] []] (.tup []):=by
 refine⟨fun X D ρ w xs hD hm hv=>?_⟩;obtain⟨hl,hv⟩:=hv
 match xs,hl with
 | [x,y],_=>
  have v0:=hv 0 _ x rfl rfl;obtain⟨p,cap,rfl⟩:∃p cap,x = .slice p 0 cap:=by
   cases v0 with
   | il=>exact⟨_,_,rfl⟩
   | iln=>exact⟨_,_,rfl⟩
  refine .of rfl ((Tryz.slices_SortFunc_none (α:=Nat) p cap y w).mono ?_);rintro e w' ⟨rfl,rfl⟩;have hsub:∀i,D i->dn D 0 0 i:=fun i hi=>.inl hi
  exact⟨.tup [],.tuple #[],[],0,ρ,rfl,⟨rfl,rfl,rfl⟩,R2 _,(hm.widen hsub).1,.tup [] #[] rfl (by simp),Ext.refl hsub⟩
theorem EK:a8 prog [] 24 [.il 1 [],.fn (.func 25) [] []] (.il 1 []):=by
 refine aL bC func24 rfl ?_;((conv=>whnf);repeat(refine Xg ?_;conv=>whnf));exact aA (.il' .nil) ⟨rfl,rfl,rfl⟩
theorem QA(l:List (List Int))(hl:l.length<=5120030000001)(hs:oZ l):a8 prog [] 14 [.il 1 (aZ l)] (.il 1 (aZ (eH l))):=by
 have nl:NN (.il 1 (aZ l)):=.il' (aU l);have nf:NN (.fn (.func 25) [] []):=.fn _ _ _ (by simp) (by simp);have nc:NN (.fn (.func 11) [] []):=.fn _ _ _ (by simp) (by simp);have ll:=bA l;refine aL bC func14 rfl ?_;((conv=>whnf);repeat(refine Xg ?_;conv=>whnf));rw[ll];refine aK (bJ rfl (bJ rfl (bJ rfl (bJ (Rs (by omega)) (bJ (Rs (by omega)) (bJ (Nk rfl (by omega) (by omega)) (Rs (by omega)))))))) ?_;((conv=>whnf);repeat(refine Xg ?_;conv=>whnf));have e:((l.length:Nat):Int).toNat=l.length:=by simp
 rw[e];refine a7.at bC (fun k:Nat=>k<=l.length) (fun k=>⟨[(3,.sl 0 0 l.length),(9,.il 1 (aZ l)),(10,.int .i64 l.length),(11,.int .i64 k)],[(0,.row 22 1 (aZ (l.take k)++List.replicate (l.length-k) .nsl))],1,27⟩) (fun k=>l.length-k) 0 [(0,0)] (by omega)
  (aJ _ rfl ⟨⟨0,_,rfl,rfl,.same (fun a ha=>by rw[TM ha];exact .nsl)⟩,trivial⟩ ⟨⟨_,rfl,.slE rfl rfl⟩,⟨_,rfl,.same _ nl⟩,⟨_,rfl,.int (by rw[ll])⟩,aH,trivial⟩) ?_
 intro k hk;have d1:decide ((k:Int)<(l.length:Int))=decide (k<l.length):=SB.2 (by omega);by_cases hlt:k<l.length
 ·obtain⟨p,pm,pg,pe⟩:=rN hlt;have hp:=hs p pm;have lp:=aE p;((conv=>whnf);repeat(refine Xg ?_;conv=>whnf));rw[d1,Rs hlt];((conv=>whnf);repeat(refine Xg ?_;conv=>whnf));repeat((first|refine aC pe ?_|refine aB.2 ?_|refine aD ?_);(conv=>whnf);repeat(refine Xg ?_;conv=>whnf))
  refine aK (uC rfl rfl rfl (by rw[lp];omega)) ?_;((conv=>whnf);repeat(refine Xg ?_;conv=>whnf));have hrl:(aZ (l.take k)++List.replicate (l.length-k) AV.nsl).length=l.length:=by simp[bA];omega
  have ee:(aZ (l.take k)++List.replicate (l.length-k) AV.nsl)[0+(k:Int).toNat]? = some .nsl:=by
   rw[Rq,SF,SK (by simp[bA];omega),UG,Rx (by simp[bA];omega)]
  repeat((first|refine aK (Ru (by simp;omega)) ?_|refine aC ee ?_|refine aB.2 ?_|refine aD ?_);(conv=>whnf);repeat(refine Xg ?_;conv=>whnf))
  have hrow:aZ (l.take (k+1))++List.replicate (l.length-(k+1)) AV.nsl=(aZ (l.take k)++List.replicate (l.length-k) AV.nsl).set (0+(k:Int).toNat) (.il 1 (aI p)):=by
   rw[Rq,SF,TW _ _ (by simp[bA];omega),show k-(aZ (l.take k)).length=0 by simp[bA];omega];rw[show l.length-k=(l.length-(k+1))+1 by omega,Ss,UF,Rv hlt];rw[Rm hlt] at pg;rw[Option.some.inj pg];simp[aZ]
  have hn:g9 (aZ (l.take k)++List.replicate (l.length-k) AV.nsl):=fun a ha=>by
   rcases R5.1 ha with ha|ha
   ·exact aU _ a ha
   ·rw[TM ha];exact .nsl
  exact .mk (k+1) [(0,0)] (by omega) (aJ _ rfl ⟨⟨0,_,rfl,rfl,by rw[hrow];exact Ja (.same hn) (Da.one rfl rfl (jL (id:=2) rfl rfl (by simp) (by simp) (aG p)))⟩,trivial⟩ ⟨⟨_,rfl,.slE rfl rfl⟩,⟨_,rfl,.same _ nl⟩,aH,⟨_,rfl,.wo⟩,trivial⟩) (by omega)
 ·have hke:k=l.length:=by omega
  subst hke;rw[SA (R2 _),Tu,List.replicate_zero,Sh];((conv=>whnf);repeat(refine Xg ?_;conv=>whnf));rw[d1,R4 hlt];((conv=>whnf);repeat(refine Xg ?_;conv=>whnf));rcases SN l.length with h0|h0
  ·obtain rfl:l=[]:=R6 h0;refine Iw.lend bC (.cons (.fz' (id:=0) (off:=0) (len:=0) (ys:=[]) rfl rfl (by simp) rfl .nil) (.cons (.same _ nc) .nil)) (.tup [] (by simp)) ?_;((conv=>whnf);repeat(refine Xg ?_;conv=>whnf));refine EK.drop bC (.cons (.fz' (id:=0) (off:=0) (len:=0) (ys:=[]) rfl rfl (by simp) rfl .nil) (.cons (.same _ nf) .nil)) (.il' .nil) ?_;((conv=>whnf);repeat(refine Xg ?_;conv=>whnf));exact aA (.il' .nil) ⟨rfl,rfl,rfl⟩
  ·have hso:=JH l h0 hl hs;refine aM.useR bC [(0,0)] hso rfl (.cons (.slE rfl rfl) (.cons (.same _ nc) .nil)) ⟨⟨0,_,rfl,rfl,.same (aU _)⟩,trivial⟩ rfl ?_;rintro r m n ⟨rfl,rfl,z,z1,z2,rfl⟩;have hzl:l.length=z.length:=z1.length_eq.symm;have hzok:oZ z:=fun v hv=>hs v (z1.mem_iff.1 hv)
   have hco:=L0 z (by omega) (by omega) hzok;rw[I5 z1 z2] at hco;refine⟨[(0,.row 22 1 (aZ z))],.tup' .nil,⟨⟨0,_,rfl,rfl,.same (aU _)⟩,trivial⟩,rfl, ?_⟩;((conv=>whnf);repeat(refine Xg ?_;conv=>whnf));refine aM.useN bC [(0,0)] hco rfl (.cons (.slE rfl hzl) (.cons (.same _ nf) .nil)) ⟨⟨0,_,rfl,rfl,.same (aU _)⟩,trivial⟩ rfl ?_;rintro r m n ⟨rfl,ys,rfl,rfl,y1,y2,y3⟩;refine⟨[(0,0)],.sl 0 0 (eH l).length,[(0,.row 22 1 ys)],1,.sl 0 0 0 _ rfl,⟨⟨0,_,rfl,rfl,.same y1⟩,trivial⟩,rfl, ?_⟩;((conv=>whnf);repeat(refine Xg ?_;conv=>whnf));exact bF (r':=.il 1 (aZ (eH l))) (.fz' (id:=0) (off:=0) (len:=(eH l).length) (ys:=aZ (eH l)) rfl rfl (by omega) (by rw[SS,y2]) (aU _)) ⟨rfl,rfl,rfl⟩
set_option maxHeartbeats 16000000
theorem x5{bytes k:Nat}(hb:Nat.beq bytes 8=true)(h3:k<=17592186044416):(Nat.ble (k*bytes) 140737488355328 && Nat.ble k 9223372036854775807)=true:=by
 have hb:=Rw hb;subst hb;rw[Ru (by omega),Ru (by omega)];simp
theorem sC(l m:List Int):aI (l++m)=aI l++aI m:=by simp[aI]
theorem vP(l:List Int)(i:Nat)(y:Int):aI (l.set i y)=(aI l).set i (.int .i64 y):=by simp[aI,Ti]
theorem Ed(ls:List (List Int))(hl:ls.length<=1000)(hs:ls.flatten.length<=1000000000):a8 prog [] 107 [.il 1 (aZ ls)] (.il 1 (aI ls.flatten)):=by
 have nl:NN (.il 1 (aZ ls)):=.il' (aU ls);have ll:=bA ls;refine aL bC func107 rfl ?_;((conv=>whnf);repeat(refine Xg ?_;conv=>whnf));refine a7.ph 3 1 ?_;refine a7.at bC (fun k:Nat=>k<=ls.length)
  (fun k=>⟨[(3,.sl 0 0 (ls.take k).flatten.length),(6,.il 1 (aZ ls)),(7,.int .i64 ls.length),(8,.int .i64 k)],[(0,.row 3 1 (aI (ls.take k).flatten))],1,17⟩) (fun k=>ls.length-k) 0 [(0,0)] (by omega)
  (aJ _ rfl ⟨⟨0,_,rfl,rfl,.nil⟩,trivial⟩ ⟨⟨_,rfl,.nslk 0 0 _ rfl rfl⟩,⟨_,rfl,.same _ nl⟩,⟨_,rfl,.int (by rw[ll])⟩,aH,trivial⟩) ?_
 intro k hk;have d1:decide ((k:Int)<(ls.length:Int))=decide (k<ls.length):=SB.2 (by omega);by_cases hlt:k<ls.length
 ·obtain⟨q,pm,pg,pe⟩:=rN hlt;have hnx:(ls.take (k+1)).flatten=(ls.take k).flatten++q:=by
   rw[Rv hlt,List.flatten_append];rw[Rm hlt] at pg;rw[Option.some.inj pg];simp
  have hle:(ls.take (k+1)).flatten.length<=ls.flatten.length:=by
   conv=>rhs;rw[←Go.Ax.SW (k+1) ls]
   rw[List.flatten_append,Ro];omega
  have hq:=aE q;rw[hnx,Ro] at hle;generalize (ls.take k).flatten=x at *;have lx:=aE x;((conv=>whnf);repeat(refine Xg ?_;conv=>whnf));rw[d1,Rs hlt];((conv=>whnf);repeat(refine Xg ?_;conv=>whnf));repeat((first|refine aC pe ?_|refine aB.2 ?_|refine aD ?_);(conv=>whnf);repeat(refine Xg ?_;conv=>whnf))
  refine aK (uC rfl rfl (by omega) (by omega)) ?_;((conv=>whnf);repeat(refine Xg ?_;conv=>whnf));exact .mk (k+1) [(1,0)] (by omega) (aJ _ rfl ⟨⟨1,_,rfl,rfl,.eq (aG _) (by rw[hnx,sC])⟩,trivial⟩ ⟨⟨_,rfl,.slE rfl (by rw[hnx,Ro,hq])⟩,⟨_,rfl,.same _ nl⟩,aH,⟨_,rfl,.wo⟩,trivial⟩) (by omega)
 ·have hke:k=ls.length:=by omega
  subst hke;rw[SD];((conv=>whnf);repeat(refine Xg ?_;conv=>whnf));rw[d1,R4 hlt];((conv=>whnf);repeat(refine Xg ?_;conv=>whnf));exact bF (dT (id:=0) rfl (aE _).symm rfl (aG _)) ⟨rfl,rfl,rfl⟩
theorem Nu(p:List Int)(i:Nat)(c:Int)(hp:p.length<=1000000000)(hi:i<p.length):a8 prog [] 109 [.il 1 (aI p),.int .i64 i,.int .i64 c] (.il 1 (aI (p.set i c))):=by
 have np:NN (.il 1 (aI p)):=.il' (aG p);have lp:=aE p;have ep:=dK hi;have g1:Nat.blt ((i:Nat):Int).toNat p.length=true:=Ru (by simp;omega);have hs:=vP p i c;generalize p[i]=z at *;refine aL bC func109 rfl ?_;((conv=>whnf);repeat(refine Xg ?_;conv=>whnf));refine aK (x5 rfl (by omega)) ?_;((conv=>whnf);repeat(refine Xg ?_;conv=>whnf));rw[lp];have ep0:(aI p)[0+((i:Nat):Int).toNat]? = some (.int .i64 z):=by rw[SF];exact ep
 repeat((first|refine aK g1 ?_|refine aC ep0 ?_|refine aB.2 ?_|refine aD ?_);(conv=>whnf);repeat(refine Xg ?_;conv=>whnf))
 exact bF (r':=.il 1 (aI (p.set i c))) (dT (id:=0) rfl (by simp[lp]) (by rw[hs,SF,Rq]) (aG _)) ⟨rfl,rfl,rfl⟩
def Rf(sp:List Sp)(p:List Int):AV:=.fn (.func 106) [] [.ip (.il 3 (bQ sp)),.ip (.il 1 (aI p))]
def Ra(p:List Int):AV:=.fn (.func 108) [] [.ip (.il 1 (aI p))]
def Rd(sp:List Sp)(p:List Int):AV:=.fn (.func 110) [] [.ip (.il 3 (bQ sp)),.ip (.il 1 (aI p))]
def Re(p:List Int):AV:=.fn (.func 111) [] [.ip (.il 1 (aI p))]
theorem wX(sp:List Sp):NN (.ip (.il 3 (bQ sp))):=.ip' (.il' (dQ sp))
theorem KC(F:FuncId)(p:List Int):NN (.fn (.func F) [] [.ip (.il 1 (aI p))]):=.fn _ _ _ (by simp) (g9.get (.cons (dG p) .nil))
theorem Kl(F:FuncId)(sp:List Sp)(p:List Int):NN (.fn (.func F) [] [.ip (.il 3 (bQ sp)),.ip (.il 1 (aI p))]):=.fn _ _ _ (by simp) (g9.get (.cons (wX sp) (.cons (dG p) .nil)))
theorem Ke(sp:List Sp)(p:List Int):a8 prog [] 85 [.il 1 (aI p),.il 3 (bQ sp)] (Rf sp p):=by
 refine aL bC func85 rfl ?_;((conv=>whnf);repeat(refine Xg ?_;conv=>whnf));exact bF (r':=Rf sp p) (.fn _ _ _ _ _ rfl rfl (by simp) (iL.cons (AO (id:=1) rfl rfl rfl rfl (.same _ (.il' (dQ sp)))) (.cons (AO (id:=0) rfl rfl rfl rfl (.same _ (.il' (aG p)))) .nil)).2) ⟨rfl,rfl,rfl⟩
theorem OM(sp:List Sp)(p:List Int):a8 prog [] 87 [.il 1 (aI p),.il 3 (bQ sp)] (Rd sp p):=by
 refine aL bC func87 rfl ?_;((conv=>whnf);repeat(refine Xg ?_;conv=>whnf));exact bF (r':=Rd sp p) (.fn _ _ _ _ _ rfl rfl (by simp) (iL.cons (AO (id:=1) rfl rfl rfl rfl (.same _ (.il' (dQ sp)))) (.cons (AO (id:=0) rfl rfl rfl rfl (.same _ (.il' (aG p)))) .nil)).2) ⟨rfl,rfl,rfl⟩
theorem Mq(sp:List Sp)(p:List Int):a8 prog [] 86 [.il 1 (aI p),.il 3 (bQ sp)] (Ra p):=by
 refine aL bC func86 rfl ?_;((conv=>whnf);repeat(refine Xg ?_;conv=>whnf));exact bF (r':=Ra p) (.fn _ _ _ _ _ rfl rfl (by simp) (iL.cons (AO (id:=0) rfl rfl rfl rfl (.same _ (.il' (aG p)))) .nil).2) ⟨rfl,rfl,rfl⟩
theorem Nl(sp:List Sp)(p:List Int):a8 prog [] 88 [.il 1 (aI p),.il 3 (bQ sp)] (Re p):=by
 refine aL bC func88 rfl ?_;((conv=>whnf);repeat(refine Xg ?_;conv=>whnf));exact bF (r':=Re p) (.fn _ _ _ _ _ rfl rfl (by simp) (iL.cons (AO (id:=0) rfl rfl rfl rfl (.same _ (.il' (aG p)))) .nil).2) ⟨rfl,rfl,rfl⟩
def Cd:List (AV × AV):=[(.int .i64 0,.fn (.func 85) [] []),(.int .i64 1,.fn (.func 86) [] []),(.int .i64 2,.fn (.func 87) [] []),(.int .i64 3,.fn (.func 88) [] [])]
theorem Nq:∀e∈Cd,NN e.1/\NN e.2:=fun e he=>by
 have nf:∀F:FuncId,NN (.fn (.func F) [] []):=fun F=>.fn _ _ _ (by simp) (by simp)
 simp only[Cd,Rz,UR,or_false] at he;rcases he with rfl|rfl|rfl|rfl<;>exact⟨.int _ _,nf _⟩
theorem pY{mem:aS}{σ:List (Nat × Nat)}:RB mem σ Cd Cd:=⟨rfl,fun i e e' h1 h2=>by
 rw[h1] at h2;cases h2;obtain⟨a,b⟩:=Nq e (R3 h1);exact⟨.same _ a,.same _ b⟩⟩
theorem Mc:aM prog [] 59 [] [] 0 fun r m k=>r = .mp 0/\m=[(0,.mapb Cd)]/\k=1:=by
 refine aL bC func59 rfl ?_;((conv=>whnf);repeat(refine Xg ?_;conv=>whnf));exact bK (r':=.mp 0) (n':=1) (m':=[(0,.mapb Cd)]) [(0,0)] rfl ⟨⟨0,_,rfl,rfl,pY⟩,trivial⟩ (.mp 0 0 rfl) ⟨rfl,rfl,rfl⟩
set_option maxHeartbeats 16000000
theorem Mk{A:List Nd}(h:VT A)(raw:List Int)(hr:raw.length<=17592186043904)(f:Nat)(ih:M5 A raw f):M5 A raw (f+1):=by
 intro i q want hif hi hC;have hx:=dS hi;have hg:=h.node hx;have hkm:=fun(k:Int) (hk:k∈(aN A i).kids)=>fF h hx hk
 have hkI:=fun(c:Int) (h0:0<=c) (h1:c<(aN A i).kids.length)=>h.kidI hx h0 h1
 have hbi:=fun h4=>h.bind hx h4
 have hf0:=fun h0=>MT h raw (f:=f+1) (i:=i) (q:=q.length) hif hi h0
 have hle:=Ih hi;have hfe:=IU hi;have hne:=mL hi;have hch:=fun hk (mem:aS) (nx:Nat) (K:AV->aS->Nat->Prop)=>J9 h raw q hi hk (by omega) hr (mem:=mem) (nx:=nx) (K:=K)
 have hopt:=fun hk=>h.opt hx hk
 have hl0:=(h.lens0 (i:Int)).1;have hl1:=fun h0=>h.len0 hx h0
 have hln:=h.len hx;have hnn:=aW (aN A i);have hkl:=h.tin.klen _ (R3 hx);have hfv:=fun(v:bB)=>N5 (aN A i) v (by have:=h.tin.vlen _ (R3 hx);omega) hg.val hg.srt
 have hmd:=fun(ks:List bB)=>It (aN A i) ks
 have hfok:=fun(k:Nat) (q:Nat) (hk:k<i)=>OW h raw (f:=f) (i:=k) (q:=q) (by omega) (by omega)
 have hcb:=fun hk=>yW (raw:=raw) (q:=q.length) (h.opt hx hk)
 have hkind:=hg.node.kind;have hnum:=fun(e:(aN A i).kind=1)=>cA hg.node.num
 have hsrt:=hg.srt;refine aL bC func89 rfl ?_;((conv=>whnf);repeat(refine Xg ?_;conv=>whnf));refine aC hle ?_;((conv=>whnf);repeat(refine Xg ?_;conv=>whnf));refine aO (fun hb=>?_) (fun hb=>?_)
 ·have h0:Go.Ax.d7 (aX A) i=0:=by simpa using hb
  obtain⟨e1,e2⟩:=hf0 h0;have e3:L2 A raw q (f+1) i want=fun r m k=>∃v,r=bT v/\(want=true->v=CX (cS A) i)/\m=jW q 2 []/\k=3:=by
   unfold L2;rw[e1,e2,Sh]
  rw[e3];have hvn:=bM (CX (cS A) i);generalize CX (cS A) i=v at *;obtain⟨v1,v2,v3,v4⟩:=v;((conv=>whnf);repeat(refine Xg ?_;conv=>whnf));refine aC hfe ?_;((conv=>whnf);repeat(refine Xg ?_;conv=>whnf));exact bK (n':=3) (m':=jW q 2 []) [(0,0),(1,2)] rfl (dZ (rid:=1) rfl rfl rfl rfl rfl rfl trivial) (.same _ hvn) ⟨_,rfl,fun _=>rfl,rfl,rfl⟩
 ·have h0:¬Go.Ax.d7 (aX A) i=0:=by simpa using hb
  rw[hln] at h0;unfold L2;obtain⟨F,hF⟩:∃F,F=dN A raw (f+1) i q.length:=⟨_,rfl⟩
  rw[←hF] at hC ⊢;simp only[dN] at hF;clear hf0 hfe hle hl1 hg hx;have hk0:(aN A i).kind≠0:=fun e=>h0 (by unfold eU;rw[Rx e])
  rw[Rp hk0] at hF;clear h0 hln;generalize aN A i=x at *;obtain⟨kind,name,lo,hi',ws,lbs,vals,kids,⟨vk,vn,vs,vks⟩⟩:=x;simp only at hkm hkI hbi hkl hF hfv hmd hkind hnum hsrt hk0 hch hcb;((conv=>whnf);repeat(refine Xg ?_;conv=>whnf));refine aC hne ?_;((conv=>whnf);repeat(refine Xg ?_;conv=>whnf));by_cases k1:kind=1
  ·subst k1;simp only[fM] at hcb;rw[Rp (by omega),Rp (by omega),Rx rfl] at hF;have hb1:=hcb (by simp);have hnm:=hnum rfl;simp only[if_true] at hb1;((conv=>whnf);repeat(refine Xg ?_;conv=>whnf));repeat((first|refine aB.2 ?_|refine aD ?_);(conv=>whnf);repeat(refine Xg ?_;conv=>whnf))
   refine hch (.inl rfl) _ _ _ 1 rfl rfl rfl rfl rfl (fun _=>rfl) ?_;generalize c7 raw ⟨1,name,lo,hi',ws,lbs,vals,kids,.mk vk vn vs vks⟩ q.length=c at *;have hw:IntKind.i64.wrap (lo+c)=lo+c:=bY ⟨by omega,by omega⟩;rw[hF];((conv=>whnf);repeat(refine Xg ?_;conv=>whnf));repeat((first|refine aB.2 ?_|refine aD ?_);(conv=>whnf);repeat(refine Xg ?_;conv=>whnf))
   exact bK (n':=3) (m':=jW (q++[c]) 2 []) [(0,0),(13,2)] rfl (dZ (rid:=13) rfl rfl rfl rfl rfl rfl trivial) (.agg' (.s (.cons (.int hw) (.s (.cons (.nil 4) .nil))))) ⟨.mk 0 (lo+c) [] [],rfl,fun _=>rfl,rfl,rfl⟩
  ·rw[show (kind == 1)=false by simpa using k1];((conv=>whnf);repeat(refine Xg ?_;conv=>whnf));by_cases k2:kind=2
   ·subst k2;rw[Rp (by omega),Rp (by omega),Rp (by omega)] at hF;have hb1:=hcb (by simp);simp only[fM] at hb1;rw[Rp (by omega)] at hb1;((conv=>whnf);repeat(refine Xg ?_;conv=>whnf));repeat((first|refine aB.2 ?_|refine aD ?_);(conv=>whnf);repeat(refine Xg ?_;conv=>whnf))
    refine hch (.inr rfl) _ _ _ 1 rfl rfl rfl rfl rfl (fun _=>rfl) ?_;generalize c7 raw ⟨2,name,lo,hi',ws,lbs,vals,kids,.mk vk vn vs vks⟩ q.length=c at *;obtain⟨d1,d2,d3⟩:=hkI c hb1.1 hb1.2;generalize bE ⟨2,name,lo,hi',ws,lbs,vals,kids,.mk vk vn vs vks⟩ c=k at *;have ek:(aI kids)[c.toNat]? = some (.int .i64 (k:Int)):=by rw[bG,d3];rfl
    have hql:(q++[c]).length=q.length+1:=by simp
    ((conv=>whnf);repeat(refine Xg ?_;conv=>whnf));repeat((first|refine aC ek ?_|refine aB.2 ?_|refine aD ?_);(conv=>whnf);repeat(refine Xg ?_;conv=>whnf))
    rw[Rs hb1.1];((conv=>whnf);repeat(refine Xg ?_;conv=>whnf));repeat((first|refine aC ek ?_|refine aB.2 ?_|refine aD ?_);(conv=>whnf);repeat(refine Xg ?_;conv=>whnf))
    rw[←hql] at hF;have hC1:(q++[c]).length+(dN A raw f k (q++[c]).length).cs.length<=4096:=by
     rw[hF] at hC;simp only[Sa] at hC;omega
    refine xV ih (q:=q++[c]) (by omega) (by omega) hC1 17 rfl rfl rfl rfl rfl (fun _=>rfl) (fun v hv=>?_);have hvn:=bM v;rw[hF];simp only;generalize dN A raw f k (q++[c]).length=G at *;obtain⟨v1,v2,v3,v4⟩:=v;((conv=>whnf);repeat(refine Xg ?_;conv=>whnf));repeat((first|refine aC ek ?_|refine aB.2 ?_|refine aD ?_);(conv=>whnf);repeat(refine Xg ?_;conv=>whnf))
    exact bK (n':=3) (m':=jW (q++c::G.cs) 2 []) [(0,0),(18,2)] rfl (dZ (rid:=18) rfl rfl rfl (by simp) rfl (by simp) trivial) (.same _ hvn) ⟨_,rfl,hv,rfl,rfl⟩
   ·have k3or:kind=3∨kind=4:=by omega
    rw[show (kind == 2)=false by simpa using k2];((conv=>whnf);repeat(refine Xg ?_;conv=>whnf));by_cases k4:kind=4
    ·subst k4;rw[Rp (by omega),Rx rfl] at hF;obtain⟨b1,b2,b3,b4⟩:=hbi rfl;obtain⟨c1,c2,c3⟩:=hkI 0 (by omega) (by omega);have hok1:=(hfok _ q.length c1).2 b3;rw[b4] at hok1;obtain⟨w,fq,w1,w2⟩:=iZ hsrt hok1;have hfv1:=hfv (dN A raw f (bE ⟨4,name,lo,hi',ws,lbs,vals,kids,.mk vk vn vs vks⟩ 0) q.length).val;rw[fq] at hF hfv1;simp only at hF hfv1;obtain⟨d1,d2,d3⟩:=hkI ((w+1:Nat):Int) (by omega) (by omega);have hC1:q.length+(dN A raw f (bE ⟨4,name,lo,hi',ws,lbs,vals,kids,.mk vk vn vs vks⟩ 0) q.length).cs.length<=4096:=by
      rw[hF] at hC;simp only[Ro] at hC;omega
     generalize hk0':bE ⟨4,name,lo,hi',ws,lbs,vals,kids,.mk vk vn vs vks⟩ 0=k0 at *;generalize bE ⟨4,name,lo,hi',ws,lbs,vals,kids,.mk vk vn vs vks⟩ ((w+1:Nat):Int)=k1 at *;have e0:(aI kids)[(0:Int).toNat]? = some (.int .i64 (k0:Int)):=by rw[bG,c3];rfl
     have e1:(aI kids)[((w+1:Nat):Int).toNat]? = some (.int .i64 (k1:Int)):=by rw[bG,d3];rfl
     ((conv=>whnf);repeat(refine Xg ?_;conv=>whnf));repeat((first|refine aC e0 ?_|refine aB.2 ?_|refine aD ?_);(conv=>whnf);repeat(refine Xg ?_;conv=>whnf))
     refine xV ih (by omega) (by omega) hC1 1 rfl rfl rfl rfl rfl (fun _=>rfl) (fun v hv=>?_);have hv:=hv rfl;subst hv;have hvn:=bM (dN A raw f k0 q.length).val;have hC2:(q++(dN A raw f k0 q.length).cs).length+(dN A raw f k1 (q++(dN A raw f k0 q.length).cs).length).cs.length<=4096:=by
      rw[hF] at hC;simp only[Ro] at hC ⊢;omega
     have hql:(q++(dN A raw f k0 q.length).cs).length=q.length+(dN A raw f k0 q.length).cs.length:=by simp
     rw[←hql] at hF;generalize dN A raw f k0 q.length=G at *;obtain⟨gcs,⟨v1,v2,v3,v4⟩⟩:=G;simp only at hF hC2 hfv1 hvn hql;((conv=>whnf);repeat(refine Xg ?_;conv=>whnf));repeat((first|refine aC e0 ?_|refine aB.2 ?_|refine aD ?_);(conv=>whnf);repeat(refine Xg ?_;conv=>whnf))
     refine hfv1.go ?_ (.cons (.ip' hnn) (.cons hvn .nil)) nn;((conv=>whnf);repeat(refine Xg ?_;conv=>whnf));repeat((first|refine aC e1 ?_|refine aB.2 ?_|refine aD ?_);(conv=>whnf);repeat(refine Xg ?_;conv=>whnf))
     refine xV ih (q:=q++gcs) (by omega) (by omega) hC2 3 rfl rfl rfl rfl rfl (fun _=>rfl) (fun v hv=>?_);have hvn2:=bM v;rw[hF];simp only;generalize dN A raw f k1 (q++gcs).length=G at *;obtain⟨u1,u2,u3,u4⟩:=v;((conv=>whnf);repeat(refine Xg ?_;conv=>whnf));repeat((first|refine aC e0 ?_|refine aB.2 ?_|refine aD ?_);(conv=>whnf);repeat(refine Xg ?_;conv=>whnf))
     exact bK (n':=3) (m':=jW (q++(gcs++G.cs)) 2 []) [(0,0),(19,2)] rfl (dZ (rid:=19) rfl rfl rfl (by simp) rfl (by simp) trivial) (.same _ hvn2) ⟨_,rfl,hv,rfl,rfl⟩
    ·have k3:kind=3:=by omega
     subst k3;rw[Rx rfl] at hF;rw[show ((3:Int) == 4)=false by decide];have lk:=aE kids;have hF1:F.cs=(dP (fun k q=>dN A raw f k q) q.length kids ([],[])).1:=by rw[hF]
     have hF2:F.val=dJ name (dP (fun k q=>dN A raw f k q) q.length kids ([],[])).2:=by rw[hF]
     rw[hF1,hF2];rw[hF1] at hC;clear hF hF1 hF2 hbi hfok hfv hcb hnum;((conv=>whnf);repeat(refine Xg ?_;conv=>whnf));refine a7.ph 60 4 ?_;cases want with
     | false=>
      refine a7.at bC (fun j:Nat=>j<=kids.length)
       (fun j=>⟨[(0,wk A),(2,.bool false),(3,Pc A raw),(8,.ptr 3 0 0),(9,.ip (bU ⟨3,name,lo,hi',ws,lbs,vals,kids,.mk vk vn vs vks⟩)),(11,.nsl),(96,.il 1 (aI kids)),(97,.int .i64 kids.length),(98,.int .i64 j)],
        jW (q++(dP (fun k q=>dN A raw f k q) q.length (kids.take j) ([],[])).1) 2 [(3,.row 60 4 [bT vZ])],4,116⟩)
       (fun j=>kids.length-j) 0 [(0,0),(1,2),(2,3)] (by omega)
       (aJ _ rfl (dZ (rid:=1) rfl rfl rfl (by simp[dP]) rfl (by simp[dP]) ⟨⟨2,_,rfl,rfl,.cons (sX 0 0 [] ) .nil⟩,trivial⟩)
        ⟨⟨_,rfl,.same _ (eM A)⟩,aH,⟨_,rfl,A3 rfl⟩,⟨_,rfl,.ptr 2 3 0 0 rfl⟩,⟨_,rfl,.same _ (.ip' hnn)⟩,aH,⟨_,rfl,.same _ (.il' (aG _))⟩,⟨_,rfl,.int (by rw[lk])⟩,aH,trivial⟩) ?_
      intro j hj;have dj:decide ((j:Int)<(kids.length:Int))=decide (j<kids.length):=SB.2 (by omega);by_cases hjl:j<kids.length
      ·have hnx:=wE (ft:=fun k q=>dN A raw f k q) (q:=q.length) hjl ([],[]);have hln:=Dd (ft:=fun k q=>dN A raw f k q) (q:=q.length) hjl ([],[]);have ek:=dK hjl;obtain⟨m0,m1⟩:=hkm kids[j] (SI hjl);generalize kids[j]=kz at *;obtain⟨k,rfl⟩:=R7 m0;simp only[Rq] at m1 hnx hln;generalize (dP (fun k q=>dN A raw f k q) q.length (kids.take j) ([],[]))=S at *;obtain⟨cs,vs⟩:=S;simp only at hnx hln ⊢;have hql:(q++cs).length=q.length+cs.length:=by simp
       rw[←hql] at hln hnx;have hC1:(q++cs).length+(dN A raw f k (q++cs).length).cs.length<=4096:=by
        simp only[Ro] at hln ⊢;omega
       ((conv=>whnf);repeat(refine Xg ?_;conv=>whnf));rw[dj,Rs hjl];((conv=>whnf);repeat(refine Xg ?_;conv=>whnf));repeat((first|refine aC ek ?_|refine aB.2 ?_|refine aD ?_);(conv=>whnf);repeat(refine Xg ?_;conv=>whnf))
       refine xV ih (q:=q++cs) (by omega) (by omega) hC1 2 rfl rfl rfl rfl rfl (fun _=>rfl) (fun v hv=>?_);generalize dN A raw f k (q++cs).length=G at *;have hvn:=bM v;obtain⟨v1,v2,v3,v4⟩:=v;((conv=>whnf);repeat(refine Xg ?_;conv=>whnf));exact .mk (j+1) [(0,0),(4,2),(3,3)] (by omega) (aJ _ rfl (dZ (rid:=4) rfl rfl rfl (by rw[hnx];simp) rfl (by rw[hnx];simp) ⟨⟨3,_,rfl,rfl,.same (.cons (bM _) .nil)⟩,trivial⟩)
        ⟨⟨_,rfl,.same _ (eM A)⟩,aH,⟨_,rfl,A3 rfl⟩,⟨_,rfl,.ptr 3 3 0 0 rfl⟩,⟨_,rfl,.same _ (.ip' hnn)⟩,aH,⟨_,rfl,.same _ (.il' (aG _))⟩,aH,⟨_,rfl,.wo⟩,trivial⟩) (by omega)
      ·have hje:j=kids.length:=by omega
       subst hje;rw[SD];have hm0:=hmd [];have hvn:=bM (dJ name []);generalize dJ name []=v at *;obtain⟨v1,v2,v3,v4⟩:=v;((conv=>whnf);repeat(refine Xg ?_;conv=>whnf));rw[dj,R4 hjl];((conv=>whnf);repeat(refine Xg ?_;conv=>whnf));refine hm0.useC bC (.cons (.same _ (.ip' hnn)) (.cons (.nil 4) .nil)) hvn ?_;((conv=>whnf);repeat(refine Xg ?_;conv=>whnf));exact bK (n':=3) (m':=jW (q++(dP (fun k q=>dN A raw f k q) q.length kids ([],[])).1) 2 []) [(0,0),(2,2)] rfl (dZ (rid:=2) rfl rfl rfl rfl rfl rfl trivial) (.same _ hvn) ⟨.mk v1 v2 v3 v4,rfl,(fun e=>by cases e),rfl,rfl⟩
     | true=>
      refine a7.at bC (fun j:Nat=>j<=kids.length)
       (fun j=>⟨[(0,wk A),(2,.bool true),(3,Pc A raw),(8,.ptr 3 0 0),(9,.ip (bU ⟨3,name,lo,hi',ws,lbs,vals,kids,.mk vk vn vs vks⟩)),(11,.sl 4 0 (dP (fun k q=>dN A raw f k q) q.length (kids.take j) ([],[])).2.length),(96,.il 1 (aI kids)),(97,.int .i64 kids.length),(98,.int .i64 j)],
        jW (q++(dP (fun k q=>dN A raw f k q) q.length (kids.take j) ([],[])).1) 2 [(3,.row 60 4 [bT vZ]),(4,.row 60 4 (aT (dP (fun k q=>dN A raw f k q) q.length (kids.take j) ([],[])).2))],5,116⟩)
       (fun j=>kids.length-j) 0 [(0,0),(1,2),(2,3),(3,4)] (by omega)
       (aJ _ rfl (dZ (rid:=1) rfl rfl rfl (by simp[dP]) rfl (by simp[dP]) ⟨⟨2,_,rfl,rfl,.cons (sX 0 0 [] ) .nil⟩,⟨3,_,rfl,rfl,.nil⟩,trivial⟩)
        ⟨⟨_,rfl,.same _ (eM A)⟩,aH,⟨_,rfl,A3 rfl⟩,⟨_,rfl,.ptr 2 3 0 0 rfl⟩,⟨_,rfl,.same _ (.ip' hnn)⟩,⟨_,rfl,.nslk 3 4 _ rfl rfl⟩,⟨_,rfl,.same _ (.il' (aG _))⟩,⟨_,rfl,.int (by rw[lk])⟩,aH,trivial⟩) ?_
      intro j hj;have dj:decide ((j:Int)<(kids.length:Int))=decide (j<kids.length):=SB.2 (by omega);have hvl:∀(l:List Int) (s:List Int × List bB),(dP (fun k q=>dN A raw f k q) q.length l s).2.length=s.2.length+l.length:=by
       intro l
       induction l with
       | nil=>intro s;rfl
       | cons a l ih=>intro s;rw[dP,ih];simp;omega
      by_cases hjl:j<kids.length
      ·have hnx:=wE (ft:=fun k q=>dN A raw f k q) (q:=q.length) hjl ([],[]);have hln:=Dd (ft:=fun k q=>dN A raw f k q) (q:=q.length) hjl ([],[]);have hvj:=hvl (kids.take j) ([],[]);have ek:=dK hjl;obtain⟨m0,m1⟩:=hkm kids[j] (SI hjl);generalize kids[j]=kz at *;obtain⟨k,rfl⟩:=R7 m0;simp only[Rq] at m1 hnx hln;clear hvl;generalize (dP (fun k q=>dN A raw f k q) q.length (kids.take j) ([],[]))=S at *;obtain⟨cs,us⟩:=S;simp only[Sw,SX] at hnx hln hvj ⊢;have hql:(q++cs).length=q.length+cs.length:=by simp
       rw[←hql] at hln hnx;have hC1:(q++cs).length+(dN A raw f k (q++cs).length).cs.length<=4096:=by
        simp only[Ro] at hln ⊢;omega
       ((conv=>whnf);repeat(refine Xg ?_;conv=>whnf));rw[dj,Rs hjl];((conv=>whnf);repeat(refine Xg ?_;conv=>whnf));repeat((first|refine aC ek ?_|refine aB.2 ?_|refine aD ?_);(conv=>whnf);repeat(refine Xg ?_;conv=>whnf))
       refine xV ih (q:=q++cs) (by omega) (by omega) hC1 2 rfl rfl rfl rfl rfl (fun _=>rfl) (fun v hv=>?_);have hv:=hv rfl;subst hv;generalize dN A raw f k (q++cs).length=G at *;obtain⟨gcs,⟨v1,v2,v3,v4⟩⟩:=G;simp only at hnx;have lus:=aF us;((conv=>whnf);repeat(refine Xg ?_;conv=>whnf));refine aK (bP rfl rfl (by rw[lus]) (by simp;omega)) ?_;((conv=>whnf);repeat(refine Xg ?_;conv=>whnf));exact .mk (j+1) [(0,0),(5,2),(3,3),(8,4)] (by omega) (aJ _ rfl (dZ (rid:=5) rfl rfl rfl (by rw[hnx];simp) rfl (by rw[hnx];simp) ⟨⟨3,_,rfl,rfl,.same (.cons (bM _) .nil)⟩,⟨8,_,rfl,rfl,.eq (aV _) (by rw[hnx,eR];rfl)⟩,trivial⟩)
        ⟨⟨_,rfl,.same _ (eM A)⟩,aH,⟨_,rfl,A3 rfl⟩,⟨_,rfl,.ptr 3 3 0 0 rfl⟩,⟨_,rfl,.same _ (.ip' hnn)⟩,⟨_,rfl,.slE rfl (by rw[hnx];simp)⟩,⟨_,rfl,.same _ (.il' (aG _))⟩,aH,⟨_,rfl,.wo⟩,trivial⟩) (by omega)
      ·have hje:j=kids.length:=by omega
       subst hje;rw[SD];generalize (dP (fun k q=>dN A raw f k q) q.length kids ([],[]))=S at *;obtain⟨cs,us⟩:=S;simp only at hmd ⊢;have hm0:=hmd us;have hvn:=bM (dJ name us);have lus:=aF us;generalize dJ name us=v at *;obtain⟨v1,v2,v3,v4⟩:=v;((conv=>whnf);repeat(refine Xg ?_;conv=>whnf));rw[dj,R4 hjl];((conv=>whnf);repeat(refine Xg ?_;conv=>whnf));refine aM.pre bC [(0,0),(2,2),(3,3)] (mem':=jW (q++cs) 2 [(3,.row 60 4 [bT vZ])]) rfl (dZ (rid:=2) rfl rfl rfl rfl rfl rfl ⟨⟨3,_,rfl,rfl,.same (.cons (bM _) .nil)⟩,trivial⟩)
        (.cons (.same _ (.ip' hnn)) (.cons (.fz' (id:=4) (off:=0) (len:=us.length) (xs:=aT us) (ys:=aT us) rfl rfl (by omega) (by rw[SS,SA (by omega)]) (aV _)) .nil)) ?_
       refine hm0.go ?_ (.cons (.ip' hnn) (.cons (.il' (aV _)) .nil)) hvn;((conv=>whnf);repeat(refine Xg ?_;conv=>whnf));exact bK (n':=3) (m':=jW (q++cs) 2 []) [(0,0),(2,2)] rfl (dZ (rid:=2) rfl rfl rfl rfl rfl rfl trivial) (.same _ hvn) ⟨.mk v1 v2 v3 v4,rfl,fun _=>rfl,rfl,rfl⟩
theorem B7{A:List Nd}(h:VT A)(raw:List Int)(hr:raw.length<=17592186043904):∀f,M5 A raw f
 | 0=>fun i q want hif _ _=>by omega
 | f+1=>Mk h raw hr f (B7 h raw hr f)
theorem RG{A:List Nd}(h:VT A)(raw:List Int)(hr:raw.length<=17592186043904):a8 prog [] 60 [wk A,.int .i64 ((A.length-1:Nat):Int),.il 1 (aI raw)] (.il 1 (aI (fV A raw))):=by
 have hp:=h.pos;have hlen:(fV A raw).length<=1024:=o9 h raw;have hF:=B7 h raw hr A.length (A.length-1) [] false (by omega) (by omega) (by
  show 0+(fV A raw).length<=4096
  omega)
 unfold L2 at hF;rw[show (dN A raw A.length (A.length-1) ([]:List Int).length).cs=fV A raw from rfl,SY] at hF;generalize fV A raw=q at *;refine aL bC func60 rfl ?_;((conv=>whnf);repeat(refine Xg ?_;conv=>whnf));refine aM.ph 3 1 ?_;refine aM.pre bC [(2,2),(3,3)] (args':=[wk A,.int .i64 ((A.length-1:Nat):Int),.bool false,.fn (.func 90) [] [.ptr 2 0 0,.ip (.il 1 (aI raw)),.ip (wk A)]])
  (mem':=[(2,.row 22 1 [.sl 3 0 0]),(3,.row 3 1 [])]) rfl ⟨⟨2,_,rfl,rfl,.cons (.one rfl rfl (.nslk 3 3 _ rfl rfl)) .nil⟩,⟨3,_,rfl,rfl,.nil⟩,trivial⟩
  (.cons (.same _ (eM A)) (.s (.s (.cons (.fn _ _ _ _ _ rfl rfl (by simp) (iL.cons (.ptr 2 2 0 0 rfl) (.cons (.fzp 1 0 0 22 1 _ _ _ rfl rfl rfl (R2 _) fun k c c' h1 h2=>by
    rw[SF] at h1;exact(iL.cons (.same _ (.il' (aG raw))) .nil).2 k c c' h1 h2) (.cons (.fzp 0 0 0 85 1 _ _ _ rfl rfl rfl (R2 _) fun k c c' h1 h2=>by
    rw[SF] at h1;exact(iL.cons (.same _ (eM A)) .nil).2 k c c' h1 h2) .nil))).2) .nil)))) ?_
 refine aM.useN bC [(2,0),(3,1)] hF rfl (.cons (.same _ (eM A)) (.s (.s (.cons (.fn _ _ _ _ _ rfl rfl (by simp) (iL.cons (.ptr 2 0 0 0 rfl) (.cons (.same _ (dG raw)) (.cons (.same _ (qH A)) .nil))).2) .nil)))) ⟨⟨2,_,rfl,rfl,.cons (.one rfl rfl (.slE rfl rfl)) .nil⟩,⟨3,_,rfl,rfl,.nil⟩,trivial⟩ rfl ?_;rintro r m k ⟨v,rfl,-,rfl,rfl⟩;refine⟨[(0,2),(2,4)],bT v,[(2,.row 22 1 [.sl 4 0 q.length]),(4,.row 3 1 (aI q))],5,.same _ (bM v),⟨⟨0,_,rfl,rfl,.cons (.one rfl rfl (.slE rfl rfl)) .nil⟩,⟨2,_,rfl,rfl,.same (aG _)⟩,trivial⟩,rfl, ?_⟩;((conv=>whnf);repeat(refine Xg ?_;conv=>whnf));exact bF (dT (id:=4) rfl (aE q).symm rfl (aG q)) ⟨rfl,rfl,rfl⟩
set_option maxHeartbeats 16000000
def sK:Code->List (Array Tmp × Code × Code)
 | .seq a b=>sK a++sK b
 | .cond _ a b=>sK a++sK b
 | .block _ a=>sK a
 | .loop a=>sK a
 | .scope a=>sK a
 | .rangeFunc _ ps ca cb=>[(ps,ca,cb)]
 | _=>[]
def HE(f:Func):Array Tmp × Code × Code:=
 match f.body with
 | some c=>match sK c with
  | []=>(#[],.skip,.skip)
  | a::_=>a
 | none=>(#[],.skip,.skip)
noncomputable def KV:Array Tmp:=(HE Tryz.f39).1
noncomputable def KX:Code:=(HE Tryz.f39).2.1
noncomputable def Lv:Code:=(HE Tryz.f39).2.2
noncomputable def rM(A:List Nd)(p:List Int)(F:List (List Int))(rid:Nat)(rest:aS):aS:=
 (0,.loop [(4,.ptr 1 0 0),(10,.ptr 2 0 0),(12,.ptr 3 0 0)] 58 KV KX Lv .ready none)::(1,.row 22 1 [.il 1 (aI p)])::(2,.row 85 1 [wk A])::(3,.row 23 1 [.sl rid 0 F.length])::(rid,.row 22 1 (aZ F))::rest
theorem cY{mem:aS}{σ:List (Nat × Nat)}{A:List Nd}{p:List Int}{F:List (List Int)}{i0 i1 i2 i3 len rid rid':Nat}{sl:List (Nat × AV)}{xs:List AV}{rest:aS}(s0:lk σ i0=some 0)(s1:lk σ i1=some 1)(s2:lk σ i2=some 2)(s3:lk σ i3=some 3)(sr:lk σ rid=some rid')
  (m0:lk mem i0=some (.loop sl 58 KV KX Lv .ready none)) (hs:p9 mem σ sl [(4,.ptr 1 0 0),(10,.ptr 2 0 0),(12,.ptr 3 0 0)]) (m1:lk mem i1=some (.row 22 1 [.il 1 (aI p)])) (m2:lk mem i2=some (.row 85 1 [wk A]))
  (m3:lk mem i3=some (.row 23 1 [.sl rid 0 len])) (hl:len=F.length) (mr:lk mem rid=some (.row 22 1 xs)) (hx:xs=aZ F) (hr:cH mem σ rest):cH mem σ (rM A p F rid' rest):=
 ⟨⟨i0,sl,s0,m0,hs.get⟩,⟨i1,_,s1,m1,.same (.cons (.il' (aG p)) .nil)⟩,⟨i2,_,s2,m2,.same (.cons (eM A) .nil)⟩,⟨i3,_,s3,m3,.cons (.one rfl rfl (.slE sr hl)) .nil⟩,⟨rid,_,sr,mr,.eq (aU _) hx⟩,hr⟩
theorem fO{mem:aS}{σ:List (Nat × Nat)}(s1:lk σ 1=some 1)(s2:lk σ 2=some 2)(s3:lk σ 3=some 3):p9 mem σ [(4,.ptr 1 0 0),(10,.ptr 2 0 0),(12,.ptr 3 0 0)] [(4,.ptr 1 0 0),(10,.ptr 2 0 0),(12,.ptr 3 0 0)]:=
 ⟨⟨_,rfl,.ptr 1 1 0 0 s1⟩,⟨_,rfl,.ptr 2 2 0 0 s2⟩,⟨_,rfl,.ptr 3 3 0 0 s3⟩,trivial⟩
theorem OC{A:List Nd}(h:VT A)(p raw:List Int)(F:List (List Int))(hp:p.length<=1000000000)(hr:raw.length<=1000000000)(hF:F.length<=5864062014000) :
  aM prog [] YF [.yld 0,.il 1 (aI raw)] (rM A p F 4 []) 5 fun r m k=>r = .bool true/\m=rM A p (F++cC A p [raw]) 5 []/\k=6:=by
 have nr:NN (.il 1 (aI raw)):=.il' (aG raw);have np:NN (.il 1 (aI p)):=.il' (aG p);have hRo:=Qz h.pos (by have:=h.tin.len;omega);have hFi:=RG h raw (by omega);have hfl:=o9 h raw;have hC:=Qh (fV A raw) p (by omega);have nq:NN (.il 1 (aI (fV A raw))):=.il' (aG _);have hre:cC A p [raw]=if dE (fV A raw) p<0 then [fV A raw] else []:=by
  unfold cC;simp only[Su,List.map_nil,T4,List.filter_nil];by_cases e:dE (fV A raw) p<0<;>simp[e]
 rw[hre];generalize dE (fV A raw) p=c at *;generalize fV A raw=q at *;have lF:=bA F;refine aM.turn bC (bO.toC (Qp:=fun _ _ _=>False) (bO.round (sl':=[(4,.ptr 1 0 0),(10,.ptr 2 0 0),(12,.ptr 3 0 0),(41,.il 1 (aI raw))]) rfl rfl rfl rfl ?_) (fun _ _ _ h=>h));((conv=>whnf);repeat(refine Xg ?_;conv=>whnf));refine hRo.go ?_ (.cons (eM A) .nil) nn;((conv=>whnf);repeat(refine Xg ?_;conv=>whnf));repeat((first|refine aB.2 ?_|refine aD ?_);(conv=>whnf);repeat(refine Xg ?_;conv=>whnf))
 refine hFi.go ?_ (.cons (eM A) (.cons nn (.cons nr .nil))) nq;((conv=>whnf);repeat(refine Xg ?_;conv=>whnf));repeat((first|refine aB.2 ?_|refine aD ?_);(conv=>whnf);repeat(refine Xg ?_;conv=>whnf))
 refine hC.go ?_ (.cons nq (.cons np .nil)) nn;((conv=>whnf);repeat(refine Xg ?_;conv=>whnf));by_cases hc:c<0
 ·rw[Rs hc,Rx hc];((conv=>whnf);repeat(refine Xg ?_;conv=>whnf));refine aK (kS rfl rfl (by rw[lF]) (by simp;omega)) ?_;((conv=>whnf);repeat(refine Xg ?_;conv=>whnf));exact bK (n':=6) (m':=rM A p (F++[q]) 5 []) [(0,0),(1,1),(2,2),(3,3),(12,5)] rfl (cY (i0:=0) (i1:=1) (i2:=2) (i3:=3) (rid:=12) rfl rfl rfl rfl rfl rfl (fO rfl rfl rfl) rfl rfl rfl (by simp) rfl (by simp[aZ]) trivial) (.same _ nn) ⟨rfl,rfl,rfl⟩
 ·rw[R4 hc,Rp hc];((conv=>whnf);repeat(refine Xg ?_;conv=>whnf));exact bK (n':=6) (m':=rM A p (F++[]) 5 []) [(0,0),(1,1),(2,2),(3,3),(4,5)] rfl (cY (i0:=0) (i1:=1) (i2:=2) (i3:=3) (rid:=4) rfl rfl rfl rfl rfl rfl (fO rfl rfl rfl) rfl rfl rfl (by simp) rfl (by simp) trivial) (.same _ nn) ⟨rfl,rfl,rfl⟩
theorem BS{A:List Nd}(h:VT A){p raw:List Int}{F:List (List Int)}(hp:p.length<=1000000000)(hr:raw.length<=1000000000)(hF:F.length<=5864062014000){mem rest:aS}{nx:Nat}{K:AV->aS->Nat->Prop}
  (rid:Nat) (hpk:jE [0,1,2,3,rid] mem=rM A p F rid []) (hd:eT [0,1,2,3,rid] mem=rest)
  (hc0:(iK (rM A p F 4 []) && (jG [(0,0),(1,1),(2,2),(3,3),(rid,4)] && oD 5 [(0,0),(1,1),(2,2),(3,3),(rid,4)]))=true)
  (l0:lk [(0,0),(1,1),(2,2),(3,3),(rid,4)] rid=some 4) (hm:lk (rM A p F rid []) rid=some (.row 22 1 (aZ F)))
  (hc:∀F':List (List Int),(iK (rM A p F' nx []) && (jG [(0,0),(1,1),(2,2),(3,3),(5,nx)] && (Nat.ble nx (nx+1) && (jX [0,1,2,3,rid] nx (rM A p F' nx []) && oO [(0,0),(1,1),(2,2),(3,3),(rid,4)] 5 nx (nx+1) [(0,0),(1,1),(2,2),(3,3),(5,nx)]))))=true)
  (hk:K (.bool true) (rM A p (F++cC A p [raw]) nx []++rest) (nx+1)) :
  aM prog [] YF [.yld 0,.il 1 (aI raw)] mem nx K:=by
 refine aM.useN bC [(0,0),(1,1),(2,2),(3,3),(rid,4)] (OC h p raw F hp hr hF) hpk (.cons (.yld 0 0 rfl) (.cons (.same _ (.il' (aG raw))) .nil))
  (cY (i0:=0) (i1:=1) (i2:=2) (i3:=3) (rid:=rid) rfl rfl rfl rfl l0 rfl (fO rfl rfl rfl) rfl rfl rfl rfl hm rfl trivial) hc0 ?_
 rintro r m k ⟨rfl,rfl,rfl⟩;refine⟨[(0,0),(1,1),(2,2),(3,3),(5,nx)],_,rM A p (F++cC A p [raw]) nx [],nx+1,.same _ nn,cY (i0:=0) (i1:=1) (i2:=2) (i3:=3) (rid:=5) rfl rfl rfl rfl rfl rfl (fO rfl rfl rfl) rfl rfl rfl rfl rfl rfl trivial,hc _, ?_⟩;rw[show fN [(0,0),(1,1),(2,2),(3,3),(rid,4)]=[0,1,2,3,rid] from rfl,hd];exact hk
def QG(A:List Nd)(p:List Int)(F:List (List Int))(raws:List (List Int)):AV->aS->Nat->Prop:=fun r m k=>r = .tup []/\m=rM A p (F++cC A p raws) 5 []/\k=6
set_option maxHeartbeats 16000000
theorem BO(l:List Int)(k:Nat):aI (l.take k)=(aI l).take k:=by simp[aI,T8]
theorem Az(l:List Int)(k:Nat):aI (l.drop k)=(aI l).drop k:=by simp[aI,US]
theorem xU{p:List Int}{b:Nat}:List.take (((b:Nat):Int).toNat-0) (List.drop 0 (aI p))=aI (p.take b):=by rw[SS,BO];simp
theorem yI{p:List Int}{e:Nat}:List.take ((aI p).length-((e:Nat):Int).toNat) (List.drop ((e:Nat):Int).toNat (aI p))=aI (p.drop e):=by rw[SA (by simp),Az];simp
theorem BA{p:List Int}{b e:Nat}:List.take (((e:Nat):Int).toNat-((b:Nat):Int).toNat) (List.drop ((b:Nat):Int).toNat (aI p))=aI ((p.drop b).take (e-b)):=by rw[BO,Az];simp
theorem Jr{A:List Nd}(h:VT A)(p:List Int)(sp:List Sp)(F:List (List Int))(hp:p.length<=1000000000)(hpi:∀x∈p,i64 x)(hb:∀s∈sp,s.1<=s.2.1/\s.2.1<=s.2.2/\s.2.2<=p.length)(hs:sp.length<=4294967296)(hF:F.length+(dL p sp).length<=5864062014000) :
  aM prog [] 106 [.yld 0,.ip (.il 3 (bQ sp)),.ip (.il 1 (aI p))] (rM A p F 4 []) 5 (QG A p F (dL p sp)):=by
 have np:NN (.il 1 (aI p)):=.il' (aG p);have nsp:NN (.il 3 (bQ sp)):=.il' (dQ sp);have lp:=aE p;have lsp:=c8 sp;refine aL bC func106 rfl ?_;((conv=>whnf);repeat(refine Xg ?_;conv=>whnf));refine a7.at bC (fun k:Nat=>k<=sp.length)
  (fun k=>⟨[(0,.yld 0),(2,.ip (.il 1 (aI p))),(9,.il 3 (bQ sp)),(10,.int .i64 sp.length),(11,.int .i64 k)],rM A p (F++cC A p (dL p (sp.take k))) 5 [],6,68⟩) (fun k=>sp.length-k) 0 [(0,0),(1,1),(2,2),(3,3),(4,5)] (by omega)
  (aJ _ rfl (cY (i0:=0) (i1:=1) (i2:=2) (i3:=3) (rid:=4) rfl rfl rfl rfl rfl rfl (fO rfl rfl rfl) rfl rfl rfl (by simp[dL,cC]) rfl (by simp[dL,cC]) trivial)
   ⟨⟨_,rfl,.yld 0 0 rfl⟩,⟨_,rfl,.same _ (dG p)⟩,⟨_,rfl,.same _ nsp⟩,⟨_,rfl,.int (by rw[lsp])⟩,aH,trivial⟩) ?_
 intro k hk;have d1:decide ((k:Int)<(sp.length:Int))=decide (k<sp.length):=SB.2 (by omega);by_cases hlt:k<sp.length
 ·have hbk:=hb _ (SI hlt);have es:(bQ sp)[((k:Nat):Int).toNat]? = some (.agg [.int .i64 sp[k].1,.int .i64 sp[k].2.1,.int .i64 sp[k].2.2]):=by rw[Rq,kJ,Rm hlt];rfl
  have hnx:dL p (sp.take (k+1))=dL p (sp.take k)++CV p sp[k]:=by
   unfold dL;rw[Rv hlt,S8];simp
  have hle:(dL p (sp.take (k+1))).length<=(dL p sp).length:=by
   unfold dL
   conv=>rhs;rw[←Go.Ax.SW (k+1) sp]
   rw[S8,Ro];omega
  have hrl:=g7 A p (dL p (sp.take k));have hdl:CV p sp[k]=jK p sp[k].2.1 sp[k].2.2::(if 0<sp[k].1/\0<p.getD (sp[k].1-1) 0 then [jK (p.set (sp[k].1-1) (p.getD (sp[k].1-1) 0-1)) sp[k].2.1 sp[k].2.2] else []):=rfl;rw[hdl] at hnx;clear hdl;have hresn:F++cC A p (dL p (sp.take (k+1)))=F++cC A p (dL p (sp.take k))++cC A p (jK p sp[k].2.1 sp[k].2.2::(if 0<sp[k].1/\0<p.getD (sp[k].1-1) 0 then [jK (p.set (sp[k].1-1) (p.getD (sp[k].1-1) 0-1)) sp[k].2.1 sp[k].2.2] else [])):=by
   rw[hnx,lC,SC]
  rw[hnx,Ro] at hle;obtain⟨F0,hF0⟩:∃F0,F0=F++cC A p (dL p (sp.take k)):=⟨_,rfl⟩
  rw[←hF0] at hresn ⊢;have hF0l:F0.length+((jK p sp[k].2.1 sp[k].2.2::(if 0<sp[k].1/\0<p.getD (sp[k].1-1) 0 then [jK (p.set (sp[k].1-1) (p.getD (sp[k].1-1) 0-1)) sp[k].2.1 sp[k].2.2] else []))).length<=5864062014000:=by
   rw[hF0,Ro];omega
  clear hnx hle hrl hF0;generalize sp[k]=x at *;obtain⟨s,b,e⟩:=x;simp only at hbk es hresn hF0l;have gb:=i8 (l:=0) (h:=((b:Nat):Int).toNat) (m:=(aI p).length) (n:=(aI p).length) (by omega) (by simp[lp];omega) (R2 _);have ge:=i8 (l:=((e:Nat):Int).toNat) (h:=(aI p).length) (m:=(aI p).length) (n:=(aI p).length) (by simp[lp];omega) (R2 _) (R2 _);((conv=>whnf);repeat(refine Xg ?_;conv=>whnf));rw[d1,Rs hlt];((conv=>whnf);repeat(refine Xg ?_;conv=>whnf));repeat((first|refine aC es ?_|refine aK gb ?_|refine aK ge ?_|refine aB.2 ?_|refine aD ?_);(conv=>whnf);repeat(refine Xg ?_;conv=>whnf))
  have hj:=Ed [p.take b,p.drop e] (by simp) (by simp;omega);rw[show [p.take b,p.drop e].flatten=jK p b e by simp[jK]] at hj;have hcl:(jK p b e).length<=1000000000:=by unfold jK;simp;omega
  refine hj.frz [23] bC (.cons (dT (id:=23) rfl rfl (by rw[xU,yI];rfl) (aU _)) .nil) (.il' (aG _)) ?_;((conv=>whnf);repeat(refine Xg ?_;conv=>whnf));repeat((first|refine aB.2 ?_|refine aD ?_);(conv=>whnf);repeat(refine Xg ?_;conv=>whnf))
  rw[Sa] at hF0l;refine BS h hp hcl (by omega) 5 rfl rfl rfl rfl rfl (fun _=>rfl) ?_;have hpf:cC A p (jK p b e::(if 0<s/\0<p.getD (s-1) 0 then [jK (p.set (s-1) (p.getD (s-1) 0-1)) b e] else []))=cC A p [jK p b e]++cC A p (if 0<s/\0<p.getD (s-1) 0 then [jK (p.set (s-1) (p.getD (s-1) 0-1)) b e] else []):=by rw[←lC];rfl
  rw[hpf,←SC] at hresn;have hr1:=g7 A p [jK p b e];rw[SQ] at hr1;generalize hF1:F0++cC A p [jK p b e]=F1 at *;have hF1l:F1.length+(if 0<s/\0<p.getD (s-1) 0 then [jK (p.set (s-1) (p.getD (s-1) 0-1)) b e] else []).length<=5864062014000:=by
   rw[←hF1,Ro];omega
  ((conv=>whnf);repeat(refine Xg ?_;conv=>whnf));repeat((first|refine aC es ?_|refine aK gb ?_|refine aK ge ?_|refine aB.2 ?_|refine aD ?_);(conv=>whnf);repeat(refine Xg ?_;conv=>whnf))
  by_cases hs0:0<s
  ·have hw1:IntKind.i64.wrap ((s:Int)-1)=((s-1:Nat):Int):=by rw[bY ⟨by omega,by omega⟩];omega
   have hsl:s-1<p.length:=by omega
   have ep:(aI p)[((s-1:Nat):Int).toNat]? = some (.int .i64 (p.getD (s-1) 0)):=by rw[dK hsl,Rn,Rm hsl];rfl
   have hci:i64 (p.getD (s-1) 0):=by
    rw[Rn,Rm hsl];exact hpi _ (SI hsl)
   have hcw:=L5 (p:=p) (v:=p.getD (s-1) 0-1) hs0 hbk.1 hbk.2.1 hbk.2.2;rw[Rs (show (s:Int)>0 by omega)];((conv=>whnf);repeat(refine Xg ?_;conv=>whnf));rw[hw1];((conv=>whnf);repeat(refine Xg ?_;conv=>whnf));repeat((first|refine aC ep ?_|refine aB.2 ?_|refine aD ?_);(conv=>whnf);repeat(refine Xg ?_;conv=>whnf))
   generalize p.getD (s-1) 0=c at *;by_cases hc0:0<c
   ·rw[Rx ⟨hs0,hc0⟩] at hresn hF1l;rw[Rs (show c>0 from hc0)];have hw2:IntKind.i64.wrap (c-1)=c-1:=bY ⟨by omega,by have:=hci.2;omega⟩;have gs1:=i8 (l:=0) (h:=((s-1:Nat):Int).toNat) (m:=(aI p).length) (n:=(aI p).length) (by omega) (by simp[lp];omega) (R2 _);have gsb:=i8 (l:=((s:Nat):Int).toNat) (h:=((b:Nat):Int).toNat) (m:=(aI p).length) (n:=(aI p).length) (by simp;omega) (by simp[lp];omega) (R2 _);((conv=>whnf);repeat(refine Xg ?_;conv=>whnf));rw[hw1];((conv=>whnf);repeat(refine Xg ?_;conv=>whnf));repeat((first|refine aC ep ?_|refine aK gs1 ?_|refine aK gsb ?_|refine aK ge ?_|refine aB.2 ?_|refine aD ?_|rw[hw1]|rw[hw2]);(conv=>whnf);repeat(refine Xg ?_;conv=>whnf))
    have hfl:[p.take (s-1),[c-1],(p.drop s).take (b-s),p.drop e].flatten=jK (p.set (s-1) (c-1)) b e:=by rw[←hcw];simp
    have hcl2:(jK (p.set (s-1) (c-1)) b e).length<=1000000000:=by unfold jK;simp;omega
    have hj2:=Ed [p.take (s-1),[c-1],(p.drop s).take (b-s),p.drop e] (by simp) (by rw[hfl];exact hcl2);rw[hfl] at hj2;refine hj2.frz [58,50] bC (.cons (Cv.fzR (id:=58) rfl rfl (.cons (.one rfl rfl (.eq (.il' (aG _)) (congrArg (AV.il 1) xU))) (.cons (.one rfl rfl (dT (id:=50) rfl rfl rfl (aG [c-1]))) (.cons (.one rfl rfl (.eq (.il' (aG _)) (congrArg (AV.il 1) BA))) (.cons (.one rfl rfl (.eq (.il' (aG _)) (congrArg (AV.il 1) yI))) .nil)))) rfl) .nil) (.il' (aG _)) ?_;((conv=>whnf);repeat(refine Xg ?_;conv=>whnf));repeat((first|refine aC ep ?_|refine aK gs1 ?_|refine aK gsb ?_|refine aK ge ?_|refine aB.2 ?_|refine aD ?_|rw[hw1]|rw[hw2]);(conv=>whnf);repeat(refine Xg ?_;conv=>whnf))
    rw[SQ] at hF1l;refine BS h hp hcl2 (by omega) 27 rfl rfl rfl rfl rfl (fun _=>rfl) ?_;((conv=>whnf);repeat(refine Xg ?_;conv=>whnf));repeat((first|refine aC ep ?_|refine aK gs1 ?_|refine aK gsb ?_|refine aK ge ?_|refine aB.2 ?_|refine aD ?_|rw[hw1]|rw[hw2]);(conv=>whnf);repeat(refine Xg ?_;conv=>whnf))
    exact .mk (k+1) [(0,0),(1,1),(2,2),(3,3),(63,5)] (by omega)
     (aJ _ rfl (cY (i0:=0) (i1:=1) (i2:=2) (i3:=3) (rid:=63) rfl rfl rfl rfl rfl rfl (fO rfl rfl rfl) rfl rfl rfl (by rw[hresn];try simp) rfl (by rw[hresn];try simp) trivial)
      ⟨⟨_,rfl,.yld 0 0 rfl⟩,⟨_,rfl,.same _ (dG p)⟩,⟨_,rfl,.same _ nsp⟩,aH,⟨_,rfl,.wo⟩,trivial⟩) (by omega)
   ·rw[Rp (fun e=>hc0 e.2),show cC A p []=[] from rfl,Sh] at hresn;rw[R4 (show ¬c>0 from hc0)];((conv=>whnf);repeat(refine Xg ?_;conv=>whnf));repeat((first|refine aC ep ?_|refine aB.2 ?_|refine aD ?_);(conv=>whnf);repeat(refine Xg ?_;conv=>whnf))
    exact .mk (k+1) [(0,0),(1,1),(2,2),(3,3),(27,5)] (by omega)
     (aJ _ rfl (cY (i0:=0) (i1:=1) (i2:=2) (i3:=3) (rid:=27) rfl rfl rfl rfl rfl rfl (fO rfl rfl rfl) rfl rfl rfl (by rw[hresn];try simp) rfl (by rw[hresn];try simp) trivial)
      ⟨⟨_,rfl,.yld 0 0 rfl⟩,⟨_,rfl,.same _ (dG p)⟩,⟨_,rfl,.same _ nsp⟩,aH,⟨_,rfl,.wo⟩,trivial⟩) (by omega)
  ·rw[Rp (fun e=>hs0 e.1),show cC A p []=[] from rfl,Sh] at hresn;rw[R4 (show ¬(s:Int)>0 by omega)];((conv=>whnf);repeat(refine Xg ?_;conv=>whnf));repeat((first|refine aB.2 ?_|refine aD ?_);(conv=>whnf);repeat(refine Xg ?_;conv=>whnf))
   exact .mk (k+1) [(0,0),(1,1),(2,2),(3,3),(27,5)] (by omega)
    (aJ _ rfl (cY (i0:=0) (i1:=1) (i2:=2) (i3:=3) (rid:=27) rfl rfl rfl rfl rfl rfl (fO rfl rfl rfl) rfl rfl rfl (by rw[hresn];try simp) rfl (by rw[hresn];try simp) trivial)
     ⟨⟨_,rfl,.yld 0 0 rfl⟩,⟨_,rfl,.same _ (dG p)⟩,⟨_,rfl,.same _ nsp⟩,aH,⟨_,rfl,.wo⟩,trivial⟩) (by omega)
 ·have hke:k=sp.length:=by omega
  subst hke;rw[SD];((conv=>whnf);repeat(refine Xg ?_;conv=>whnf));rw[d1,R4 hlt];((conv=>whnf);repeat(refine Xg ?_;conv=>whnf));exact bK (n':=6) (m':=rM A p (F++cC A p (dL p sp)) 5 []) [(0,0),(1,1),(2,2),(3,3),(5,5)] rfl (cY (i0:=0) (i1:=1) (i2:=2) (i3:=3) (rid:=5) rfl rfl rfl rfl rfl rfl (fO rfl rfl rfl) rfl rfl rfl rfl rfl rfl trivial) (.same _ (.tup' .nil)) ⟨rfl,rfl,rfl⟩
set_option maxHeartbeats 16000000
theorem J4{A:List Nd}(h:VT A)(p:List Int)(F:List (List Int))(hp:p.length<=1000000000)(hpi:∀x∈p,i64 x)(hF:F.length+(nT p 0).length<=5864062014000) :
  aM prog [] 108 [.yld 0,.ip (.il 1 (aI p))] (rM A p F 4 []) 5 (QG A p F (nT p 0)):=by
 have np:NN (.il 1 (aI p)):=.il' (aG p);have lp:=aE p;refine aL bC func108 rfl ?_;((conv=>whnf);repeat(refine Xg ?_;conv=>whnf));refine a7.at bC (fun z:Nat × List (List Int)=>z.1<=p.length/\z.2++nT p z.1=nT p 0)
  (fun z=>⟨[(0,.yld 0),(1,.ip (.il 1 (aI p))),(7,.il 1 (aI p)),(8,.int .i64 p.length),(9,.int .i64 z.1)],rM A p (F++cC A p z.2) 5 [],6,33⟩) (fun z=>p.length-z.1) (0,[]) [(0,0),(1,1),(2,2),(3,3),(4,5)] ⟨by simp only;omega,rfl⟩
  (aJ _ rfl (cY (i0:=0) (i1:=1) (i2:=2) (i3:=3) (rid:=4) rfl rfl rfl rfl rfl rfl (fO rfl rfl rfl) rfl rfl rfl (by simp[cC]) rfl (by simp[cC]) trivial)
   ⟨⟨_,rfl,.yld 0 0 rfl⟩,⟨_,rfl,.same _ (dG p)⟩,⟨_,rfl,.same _ np⟩,⟨_,rfl,.int (by rw[lp])⟩,aH,trivial⟩) ?_
 rintro⟨k,X⟩ ⟨hk,hX⟩;simp only at hk hX ⊢;have d1:decide ((k:Int)<(p.length:Int))=decide (k<p.length):=SB.2 (by omega);have hXl:X.length+(nT p k).length=(nT p 0).length:=by rw[←hX,Ro]
 have hrX:=g7 A p X;by_cases hlt:k<p.length
 ·have ek:=dK hlt;have hci:=hpi _ (SI hlt);have hlo:nT p k=BF p k++nT p (k+1):=by
   conv=>lhs;rw[nT,Rx hlt]
  have hls:BF p k=if 0<p[k] then [p.set k 0,p.set k (p[k].tdiv 2),p.set k (p[k]-1)] else []:=by
   unfold BF;rw[Rn,Rm hlt];rfl
  have hWi:=fun c=>Nu p k c hp hlt
  rw[hlo,hls] at hX hXl;clear hlo hls;generalize p[k]=c at *;((conv=>whnf);repeat(refine Xg ?_;conv=>whnf));rw[d1,Rs hlt];((conv=>whnf);repeat(refine Xg ?_;conv=>whnf));repeat((first|refine aC ek ?_|refine aB.2 ?_|refine aD ?_);(conv=>whnf);repeat(refine Xg ?_;conv=>whnf))
  by_cases hc:c<=0
  ·rw[Rs hc];rw[Rp (by omega),SY] at hX;((conv=>whnf);repeat(refine Xg ?_;conv=>whnf));exact .mk (k+1,X) [(0,0),(1,1),(2,2),(3,3),(5,5)] ⟨by simp only;omega,hX⟩
    (aJ _ rfl (cY (i0:=0) (i1:=1) (i2:=2) (i3:=3) (rid:=5) rfl rfl rfl rfl rfl rfl (fO rfl rfl rfl) rfl rfl rfl rfl rfl rfl trivial)
     ⟨⟨_,rfl,.yld 0 0 rfl⟩,⟨_,rfl,.same _ (dG p)⟩,⟨_,rfl,.same _ np⟩,aH,⟨_,rfl,.wp⟩,trivial⟩) (by simp only;omega)
  ·rw[R4 hc];rw[Rx (by omega)] at hX hXl;have hw1:IntKind.i64.wrap (c-1)=c-1:=bY ⟨by omega,by have:=hci.2;omega⟩;have hdv:IntKind.i64.wrap (c.tdiv 2)=c.tdiv 2:=by
    have h1:=uH (a:=c) (b:=2) (by omega) (by omega);have h2:0<=c.tdiv 2:=TF (by omega) (by omega);exact bY ⟨by omega,by have:=hci.2;omega⟩
   obtain⟨L3,hL3⟩:∃L3:List (List Int),L3=[p.set k 0,p.set k (c.tdiv 2),p.set k (c-1)]:=⟨_,rfl⟩
   rw[←hL3] at hX hXl;have hL3l:L3.length=3:=by rw[hL3];rfl
   rw[Ro,hL3l] at hXl;((conv=>whnf);repeat(refine Xg ?_;conv=>whnf));rw[hw1,hdv];have n20:NN (.agg [.int .i64 0,.int .i64 (c.tdiv 2),.int .i64 (c-1)]):=.agg' (.cons nn (.cons nn (.cons nn .nil)));refine a7.at bC (fun j:Nat=>j<=3)
    (fun j=>⟨[(0,.yld 0),(1,.ip (.il 1 (aI p))),(3,.int .i64 k),(7,.il 1 (aI p)),(8,.int .i64 p.length),(9,.int .i64 k),(20,.agg [.int .i64 0,.int .i64 (c.tdiv 2),.int .i64 (c-1)]),(21,.int .i64 j)],rM A p (F++cC A p (X++L3.take j)) 5 [],6,33⟩) (fun j=>3-j) 0 [(0,0),(1,1),(2,2),(3,3),(5,5)] (by omega)
    (aJ _ rfl (cY (i0:=0) (i1:=1) (i2:=2) (i3:=3) (rid:=5) rfl rfl rfl rfl rfl rfl (fO rfl rfl rfl) rfl rfl rfl (by simp) rfl (by simp) trivial)
     ⟨⟨_,rfl,.yld 0 0 rfl⟩,⟨_,rfl,.same _ (dG p)⟩,aH,⟨_,rfl,.same _ np⟩,aH,aH,⟨_,rfl,.same _ n20⟩,aH,trivial⟩) ?_
   intro j hj
   match j,hj with
   | 0,hj=>
    have hnx:L3.take (0+1)=L3.take 0++[p.set k 0]:=by rw[hL3];rfl
    have hresn:F++cC A p (X++L3.take (0+1))=F++cC A p (X++L3.take 0)++cC A p [p.set k 0]:=by rw[hnx,←SC X,lC,SC]
    have hrl:=g7 A p (X++L3.take 0);have hfl:(F++cC A p (X++L3.take 0)).length<=5864062014000:=by
     simp only[Ro,SX] at hrl ⊢;omega
    generalize F++cC A p (X++L3.take 0)=F0 at *;((conv=>whnf);repeat(refine Xg ?_;conv=>whnf));refine(hWi 0).go ?_ (.cons np (.cons nn (.cons nn .nil))) (.il' (aG _));((conv=>whnf);repeat(refine Xg ?_;conv=>whnf));refine BS h hp (by rw[Sx];exact hp) hfl 5 rfl rfl rfl rfl rfl (fun _=>rfl) ?_;((conv=>whnf);repeat(refine Xg ?_;conv=>whnf));exact .mk 1 [(0,0),(1,1),(2,2),(3,3),(6,5)] (by omega)
     (aJ _ rfl (cY (i0:=0) (i1:=1) (i2:=2) (i3:=3) (rid:=6) rfl rfl rfl rfl rfl rfl (fO rfl rfl rfl) rfl rfl rfl (by rw[hresn]) rfl (by rw[hresn]) trivial)
      ⟨⟨_,rfl,.yld 0 0 rfl⟩,⟨_,rfl,.same _ (dG p)⟩,aH,⟨_,rfl,.same _ np⟩,aH,aH,⟨_,rfl,.same _ n20⟩,⟨_,rfl,.wo⟩,trivial⟩) (by omega)
   | 1,hj=>
    have hnx:L3.take (1+1)=L3.take 1++[p.set k (c.tdiv 2)]:=by rw[hL3];rfl
    have hresn:F++cC A p (X++L3.take (1+1))=F++cC A p (X++L3.take 1)++cC A p [p.set k (c.tdiv 2)]:=by rw[hnx,←SC X,lC,SC]
    have hrl:=g7 A p (X++L3.take 1);have hfl:(F++cC A p (X++L3.take 1)).length<=5864062014000:=by
     simp only[Ro,SX] at hrl ⊢;omega
    generalize F++cC A p (X++L3.take 1)=F0 at *;((conv=>whnf);repeat(refine Xg ?_;conv=>whnf));refine(hWi (c.tdiv 2)).go ?_ (.cons np (.cons nn (.cons nn .nil))) (.il' (aG _));((conv=>whnf);repeat(refine Xg ?_;conv=>whnf));refine BS h hp (by rw[Sx];exact hp) hfl 5 rfl rfl rfl rfl rfl (fun _=>rfl) ?_;((conv=>whnf);repeat(refine Xg ?_;conv=>whnf));exact .mk 2 [(0,0),(1,1),(2,2),(3,3),(6,5)] (by omega)
     (aJ _ rfl (cY (i0:=0) (i1:=1) (i2:=2) (i3:=3) (rid:=6) rfl rfl rfl rfl rfl rfl (fO rfl rfl rfl) rfl rfl rfl (by rw[hresn]) rfl (by rw[hresn]) trivial)
      ⟨⟨_,rfl,.yld 0 0 rfl⟩,⟨_,rfl,.same _ (dG p)⟩,aH,⟨_,rfl,.same _ np⟩,aH,aH,⟨_,rfl,.same _ n20⟩,⟨_,rfl,.wo⟩,trivial⟩) (by omega)
   | 2,hj=>
    have hnx:L3.take (2+1)=L3.take 2++[p.set k (c-1)]:=by rw[hL3];rfl
    have hresn:F++cC A p (X++L3.take (2+1))=F++cC A p (X++L3.take 2)++cC A p [p.set k (c-1)]:=by rw[hnx,←SC X,lC,SC]
    have hrl:=g7 A p (X++L3.take 2);have hfl:(F++cC A p (X++L3.take 2)).length<=5864062014000:=by
     simp only[Ro,SX] at hrl ⊢;omega
    generalize F++cC A p (X++L3.take 2)=F0 at *;((conv=>whnf);repeat(refine Xg ?_;conv=>whnf));refine(hWi (c-1)).go ?_ (.cons np (.cons nn (.cons nn .nil))) (.il' (aG _));((conv=>whnf);repeat(refine Xg ?_;conv=>whnf));refine BS h hp (by rw[Sx];exact hp) hfl 5 rfl rfl rfl rfl rfl (fun _=>rfl) ?_;((conv=>whnf);repeat(refine Xg ?_;conv=>whnf));exact .mk 3 [(0,0),(1,1),(2,2),(3,3),(6,5)] (by omega)
     (aJ _ rfl (cY (i0:=0) (i1:=1) (i2:=2) (i3:=3) (rid:=6) rfl rfl rfl rfl rfl rfl (fO rfl rfl rfl) rfl rfl rfl (by rw[hresn]) rfl (by rw[hresn]) trivial)
      ⟨⟨_,rfl,.yld 0 0 rfl⟩,⟨_,rfl,.same _ (dG p)⟩,aH,⟨_,rfl,.same _ np⟩,aH,aH,⟨_,rfl,.same _ n20⟩,⟨_,rfl,.wo⟩,trivial⟩) (by omega)
   | 3,hj=>
    rw[SA (by omega)];((conv=>whnf);repeat(refine Xg ?_;conv=>whnf));exact .mk (k+1,X++L3) [(0,0),(1,1),(2,2),(3,3),(5,5)] ⟨by simp only;omega,by simp only;rw[SC];exact hX⟩
     (aJ _ rfl (cY (i0:=0) (i1:=1) (i2:=2) (i3:=3) (rid:=5) rfl rfl rfl rfl rfl rfl (fO rfl rfl rfl) rfl rfl rfl rfl rfl rfl trivial)
      ⟨⟨_,rfl,.yld 0 0 rfl⟩,⟨_,rfl,.same _ (dG p)⟩,⟨_,rfl,.same _ np⟩,aH,⟨_,rfl,.wp⟩,trivial⟩) (by simp only;omega)
 ·have hke:k=p.length:=by omega
  rw[nT,Rp hlt,Sh] at hX;rw[hX];((conv=>whnf);repeat(refine Xg ?_;conv=>whnf));rw[d1,R4 hlt];((conv=>whnf);repeat(refine Xg ?_;conv=>whnf));exact bK (n':=6) (m':=rM A p (F++cC A p (nT p 0)) 5 []) [(0,0),(1,1),(2,2),(3,3),(5,5)] rfl (cY (i0:=0) (i1:=1) (i2:=2) (i3:=3) (rid:=5) rfl rfl rfl rfl rfl rfl (fO rfl rfl rfl) rfl rfl rfl rfl rfl rfl trivial) (.same _ (.tup' .nil)) ⟨rfl,rfl,rfl⟩
set_option maxHeartbeats 16000000
theorem HW(l:List Sp)(k:Nat):bQ (l.drop k)=(bQ l).drop k:=by simp[bQ,US]
theorem LH{l:List Sp}{e:Nat}:List.take ((bQ l).length-((e:Nat):Int).toNat) (List.drop ((e:Nat):Int).toNat (bQ l))=bQ (l.drop e):=by rw[SA (by simp),HW];simp
theorem MQ{A:List Nd}(h:VT A)(p:List Int)(sp:List Sp)(F:List (List Int))(hp:p.length<=1000000000)(hb:∀s∈sp,s.1<=s.2.1/\s.2.1<=s.2.2/\s.2.2<=p.length)(hs:sp.length<=4294967296)(hF:F.length+(dY p sp).length<=5864062014000) :
  aM prog [] 110 [.yld 0,.ip (.il 3 (bQ sp)),.ip (.il 1 (aI p))] (rM A p F 4 []) 5 (QG A p F (dY p sp)):=by
 have np:NN (.il 1 (aI p)):=.il' (aG p);have nsp:NN (.il 3 (bQ sp)):=.il' (dQ sp);have lp:=aE p;have lsp:=c8 sp;refine aL bC func110 rfl ?_;((conv=>whnf);repeat(refine Xg ?_;conv=>whnf));refine a7.at bC (fun z:Nat × List (List Int)=>z.1<=sp.length/\z.2++dY p (sp.drop z.1)=dY p sp)
  (fun z=>⟨[(0,.yld 0),(1,.ip (.il 3 (bQ sp))),(2,.ip (.il 1 (aI p))),(11,.il 3 (bQ sp)),(12,.int .i64 sp.length),(13,.int .i64 z.1)],rM A p (F++cC A p z.2) 5 [],6,65⟩) (fun z=>sp.length-z.1) (0,[]) [(0,0),(1,1),(2,2),(3,3),(4,5)] ⟨by simp only;omega,by simp⟩
  (aJ _ rfl (cY (i0:=0) (i1:=1) (i2:=2) (i3:=3) (rid:=4) rfl rfl rfl rfl rfl rfl (fO rfl rfl rfl) rfl rfl rfl (by simp[cC]) rfl (by simp[cC]) trivial)
   ⟨⟨_,rfl,.yld 0 0 rfl⟩,⟨_,rfl,.same _ (wX sp)⟩,⟨_,rfl,.same _ (dG p)⟩,⟨_,rfl,.same _ nsp⟩,⟨_,rfl,.int (by rw[lsp])⟩,aH,trivial⟩) ?_
 rintro⟨k,X⟩ ⟨hk,hX⟩;simp only at hk hX ⊢;have d1:decide ((k:Int)<(sp.length:Int))=decide (k<sp.length):=SB.2 (by omega);have hXl:X.length+(dY p (sp.drop k)).length=(dY p sp).length:=by rw[←hX,Ro]
 by_cases hlt:k<sp.length
 ·have hbk:=hb _ (SI hlt);have es:(bQ sp)[((k:Nat):Int).toNat]? = some (.agg [.int .i64 sp[k].1,.int .i64 sp[k].2.1,.int .i64 sp[k].2.2]):=by rw[Rq,kJ,Rm hlt];rfl
  have hdr:sp.drop k=sp[k]::sp.drop (k+1):=SH hlt;rw[hdr,dY] at hX hXl;have hw1:IntKind.i64.wrap ((k:Int)+1)=((k+1:Nat):Int):=w64 (by omega) ⟨by omega,by omega⟩;have gk:=i8 (l:=((k+1:Nat):Int).toNat) (h:=(bQ sp).length) (m:=(bQ sp).length) (n:=(bQ sp).length) (by simp[lsp];omega) (R2 _) (R2 _);have hbl:∀s∈sp.drop (k+1),s.1<=s.2.1/\s.2.1<=s.2.2/\s.2.2<=p.length:=fun s hs=>hb s (Sq hs)
  have hll:(sp.drop (k+1)).length<=4294967296:=by rw[Tj];omega
  have hsd:=LH (l:=sp) (e:=k+1);generalize hlk:sp.drop (k+1)=l at *;clear hdr;generalize sp[k]=x at *;obtain⟨s,b,e⟩:=x;simp only at hbk es hX hXl;have nl:NN (.il 3 (bQ l)):=.il' (dQ l);have ll:=c8 l;((conv=>whnf);repeat(refine Xg ?_;conv=>whnf));rw[d1,Rs hlt];((conv=>whnf);repeat(refine Xg ?_;conv=>whnf));repeat((first|refine aC es ?_|refine aB.2 ?_|refine aD ?_);(conv=>whnf);repeat(refine Xg ?_;conv=>whnf))
  rw[hw1];((conv=>whnf);repeat(refine Xg ?_;conv=>whnf));refine aK gk ?_;rw[hsd];((conv=>whnf);repeat(refine Xg ?_;conv=>whnf));refine a7.at bC (fun j:Nat=>j<=l.length)
   (fun j=>⟨[(0,.yld 0),(1,.ip (.il 3 (bQ sp))),(2,.ip (.il 1 (aI p))),(5,.ptr 6 0 0),(11,.il 3 (bQ sp)),(12,.int .i64 sp.length),(13,.int .i64 k),(21,.il 3 (bQ l)),(22,.int .i64 l.length),(23,.int .i64 j)],
    rM A p (F++cC A p (X++(l.take j).flatMap (gH p (s,b,e)))) 5 [(6,.row 138 1 [.int .i64 s,.int .i64 b,.int .i64 e])],7,65⟩) (fun j=>l.length-j) 0 [(0,0),(1,1),(2,2),(3,3),(5,5),(6,6)] (by omega)
   (aJ _ rfl (cY (i0:=0) (i1:=1) (i2:=2) (i3:=3) (rid:=5) rfl rfl rfl rfl rfl rfl (fO rfl rfl rfl) rfl rfl rfl (by simp) rfl (by simp) ⟨⟨6,_,rfl,rfl,.same (.cons nn (.cons nn (.cons nn .nil)))⟩,trivial⟩)
    ⟨⟨_,rfl,.yld 0 0 rfl⟩,⟨_,rfl,.same _ (wX sp)⟩,⟨_,rfl,.same _ (dG p)⟩,⟨_,rfl,.ptr 6 6 0 0 rfl⟩,⟨_,rfl,.same _ nsp⟩,aH,aH,⟨_,rfl,.same _ nl⟩,⟨_,rfl,.int (by rw[ll])⟩,aH,trivial⟩) ?_
  intro j hj;have dj:decide ((j:Int)<(l.length:Int))=decide (j<l.length):=SB.2 (by omega);by_cases hjl:j<l.length
  ·have hbj:=hbl _ (SI hjl);have ey:(bQ l)[((j:Nat):Int).toNat]? = some (.agg [.int .i64 l[j].1,.int .i64 l[j].2.1,.int .i64 l[j].2.2]):=by rw[Rq,kJ,Rm hjl];rfl
   have hnx:(l.take (j+1)).flatMap (gH p (s,b,e))=(l.take j).flatMap (gH p (s,b,e))++gH p (s,b,e) l[j]:=by
    rw[Rv hjl,S8];simp
   have hresn:F++cC A p (X++(l.take (j+1)).flatMap (gH p (s,b,e)))=F++cC A p (X++(l.take j).flatMap (gH p (s,b,e)))++cC A p (gH p (s,b,e) l[j]):=by rw[hnx,←SC X,lC,SC]
   have hle:((l.take j).flatMap (gH p (s,b,e))).length<=(l.flatMap (gH p (s,b,e))).length:=by
    conv=>rhs;rw[←Go.Ax.SW j l]
    rw[S8,Ro];omega
   have hrl:=g7 A p (X++(l.take j).flatMap (gH p (s,b,e)));have hfl:(F++cC A p (X++(l.take j).flatMap (gH p (s,b,e)))).length<=5864062014000:=by
    simp only[Ro] at hrl hXl ⊢;omega
   clear hnx hle hrl;generalize F++cC A p (X++(l.take j).flatMap (gH p (s,b,e)))=F0 at *;have hsx:gH p (s,b,e) l[j]=if s=l[j].1/\e=l[j].2.1 then [p.take b++(p.drop l[j].2.1).take (l[j].2.2-l[j].2.1)++(p.drop b).take (e-b)++p.drop l[j].2.2] else []:=rfl
   rw[hsx] at hresn;clear hsx;generalize l[j]=y at *;obtain⟨ys,yb,f⟩:=y;simp only at hbj ey hresn;((conv=>whnf);repeat(refine Xg ?_;conv=>whnf));rw[dj,Rs hjl];((conv=>whnf);repeat(refine Xg ?_;conv=>whnf));repeat((first|refine aC ey ?_|refine aB.2 ?_|refine aD ?_);(conv=>whnf);repeat(refine Xg ?_;conv=>whnf))
   by_cases h1:s=ys
   ·subst h1;rw[show (((s:Nat):Int) != (s:Int))=false by simp];((conv=>whnf);repeat(refine Xg ?_;conv=>whnf));by_cases h2:e=yb
    ·subst h2;rw[Rx ⟨rfl,rfl⟩] at hresn;rw[show (((e:Nat):Int) != (e:Int))=false by simp];have gb:=i8 (l:=0) (h:=((b:Nat):Int).toNat) (m:=(aI p).length) (n:=(aI p).length) (by omega) (by simp[lp];omega) (R2 _);have gef:=i8 (l:=((e:Nat):Int).toNat) (h:=((f:Nat):Int).toNat) (m:=(aI p).length) (n:=(aI p).length) (by simp;omega) (by simp[lp];omega) (R2 _);have gbe:=i8 (l:=((b:Nat):Int).toNat) (h:=((e:Nat):Int).toNat) (m:=(aI p).length) (n:=(aI p).length) (by simp;omega) (by simp[lp];omega) (R2 _);have gf:=i8 (l:=((f:Nat):Int).toNat) (h:=(aI p).length) (m:=(aI p).length) (n:=(aI p).length) (by simp[lp];omega) (R2 _) (R2 _);((conv=>whnf);repeat(refine Xg ?_;conv=>whnf));repeat((first|refine aK gb ?_|refine aK gef ?_|refine aK gbe ?_|refine aK gf ?_|refine aB.2 ?_|refine aD ?_);(conv=>whnf);repeat(refine Xg ?_;conv=>whnf))
     have hfl2:[p.take b,(p.drop e).take (f-e),(p.drop b).take (e-b),p.drop f].flatten=p.take b++(p.drop e).take (f-e)++(p.drop b).take (e-b)++p.drop f:=by simp
     have hcl:(p.take b++(p.drop e).take (f-e)++(p.drop b).take (e-b)++p.drop f).length<=1000000000:=by simp;omega
     have hj2:=Ed [p.take b,(p.drop e).take (f-e),(p.drop b).take (e-b),p.drop f] (by simp) (by rw[hfl2];exact hcl);rw[hfl2] at hj2;refine hj2.frz [32] bC (.cons (dT (id:=32) rfl rfl (by rw[xU,BA,BA,yI];rfl) (aU [p.take b,(p.drop e).take (f-e),(p.drop b).take (e-b),p.drop f])) .nil) (.il' (aG _)) ?_;((conv=>whnf);repeat(refine Xg ?_;conv=>whnf));repeat((first|refine aK gb ?_|refine aK gef ?_|refine aK gbe ?_|refine aK gf ?_|refine aB.2 ?_|refine aD ?_);(conv=>whnf);repeat(refine Xg ?_;conv=>whnf))
     refine BS h hp hcl hfl 5 rfl rfl rfl rfl rfl (fun _=>rfl) ?_;((conv=>whnf);repeat(refine Xg ?_;conv=>whnf));repeat((first|refine aK gb ?_|refine aK gef ?_|refine aK gbe ?_|refine aK gf ?_|refine aB.2 ?_|refine aD ?_);(conv=>whnf);repeat(refine Xg ?_;conv=>whnf))
     exact .mk (j+1) [(0,0),(1,1),(2,2),(3,3),(36,5),(6,6)] (by omega)
      (aJ _ rfl (cY (i0:=0) (i1:=1) (i2:=2) (i3:=3) (rid:=36) rfl rfl rfl rfl rfl rfl (fO rfl rfl rfl) rfl rfl rfl (by rw[hresn]) rfl (by rw[hresn]) ⟨⟨6,_,rfl,rfl,.same (.cons nn (.cons nn (.cons nn .nil)))⟩,trivial⟩)
       ⟨⟨_,rfl,.yld 0 0 rfl⟩,⟨_,rfl,.same _ (wX sp)⟩,⟨_,rfl,.same _ (dG p)⟩,⟨_,rfl,.ptr 6 6 0 0 rfl⟩,⟨_,rfl,.same _ nsp⟩,aH,aH,⟨_,rfl,.same _ nl⟩,aH,⟨_,rfl,.wo⟩,trivial⟩) (by omega)
    ·rw[Rp (fun z=>h2 z.2),show cC A p []=[] from rfl,Sh] at hresn;rw[show (((yb:Nat):Int) != (e:Int))=true by simp;omega];((conv=>whnf);repeat(refine Xg ?_;conv=>whnf));exact .mk (j+1) [(0,0),(1,1),(2,2),(3,3),(5,5),(6,6)] (by omega)
      (aJ _ rfl (cY (i0:=0) (i1:=1) (i2:=2) (i3:=3) (rid:=5) rfl rfl rfl rfl rfl rfl (fO rfl rfl rfl) rfl rfl rfl (by rw[hresn]) rfl (by rw[hresn]) ⟨⟨6,_,rfl,rfl,.same (.cons nn (.cons nn (.cons nn .nil)))⟩,trivial⟩)
       ⟨⟨_,rfl,.yld 0 0 rfl⟩,⟨_,rfl,.same _ (wX sp)⟩,⟨_,rfl,.same _ (dG p)⟩,⟨_,rfl,.ptr 6 6 0 0 rfl⟩,⟨_,rfl,.same _ nsp⟩,aH,aH,⟨_,rfl,.same _ nl⟩,aH,⟨_,rfl,.wo⟩,trivial⟩) (by omega)
   ·rw[Rp (fun z=>h1 z.1),show cC A p []=[] from rfl,Sh] at hresn;rw[show (((s:Nat):Int) != (ys:Int))=true by simp;omega];((conv=>whnf);repeat(refine Xg ?_;conv=>whnf));exact .mk (j+1) [(0,0),(1,1),(2,2),(3,3),(5,5),(6,6)] (by omega)
     (aJ _ rfl (cY (i0:=0) (i1:=1) (i2:=2) (i3:=3) (rid:=5) rfl rfl rfl rfl rfl rfl (fO rfl rfl rfl) rfl rfl rfl (by rw[hresn]) rfl (by rw[hresn]) ⟨⟨6,_,rfl,rfl,.same (.cons nn (.cons nn (.cons nn .nil)))⟩,trivial⟩)
      ⟨⟨_,rfl,.yld 0 0 rfl⟩,⟨_,rfl,.same _ (wX sp)⟩,⟨_,rfl,.same _ (dG p)⟩,⟨_,rfl,.ptr 6 6 0 0 rfl⟩,⟨_,rfl,.same _ nsp⟩,aH,aH,⟨_,rfl,.same _ nl⟩,aH,⟨_,rfl,.wo⟩,trivial⟩) (by omega)
  ·have hje:j=l.length:=by omega
   subst hje;rw[SD];((conv=>whnf);repeat(refine Xg ?_;conv=>whnf));rw[dj,R4 hjl];((conv=>whnf);repeat(refine Xg ?_;conv=>whnf));exact .mk (k+1,X++l.flatMap (gH p (s,b,e))) [(0,0),(1,1),(2,2),(3,3),(5,5)] ⟨by simp only;omega,by simp only;rw[SC,hlk];exact hX⟩
    (aJ _ rfl (cY (i0:=0) (i1:=1) (i2:=2) (i3:=3) (rid:=5) rfl rfl rfl rfl rfl rfl (fO rfl rfl rfl) rfl rfl rfl rfl rfl rfl trivial)
     ⟨⟨_,rfl,.yld 0 0 rfl⟩,⟨_,rfl,.same _ (wX sp)⟩,⟨_,rfl,.same _ (dG p)⟩,⟨_,rfl,.same _ nsp⟩,aH,⟨_,rfl,.wp⟩,trivial⟩) (by simp only;omega)
 ·have hke:k=sp.length:=by omega
  subst hke;rw[TZ,dY,Sh] at hX;rw[hX];((conv=>whnf);repeat(refine Xg ?_;conv=>whnf));rw[d1,R4 hlt];((conv=>whnf);repeat(refine Xg ?_;conv=>whnf));exact bK (n':=6) (m':=rM A p (F++cC A p (dY p sp)) 5 []) [(0,0),(1,1),(2,2),(3,3),(5,5)] rfl (cY (i0:=0) (i1:=1) (i2:=2) (i3:=3) (rid:=5) rfl rfl rfl rfl rfl rfl (fO rfl rfl rfl) rfl rfl rfl rfl rfl rfl trivial) (.same _ (.tup' .nil)) ⟨rfl,rfl,rfl⟩
set_option maxHeartbeats 16000000
theorem LM{A:List Nd}(h:VT A)(p:List Int)(F:List (List Int))(hp:p.length<=1000000000)(hF:F.length+(mD p 0).length<=5864062014000) :
  aM prog [] 111 [.yld 0,.ip (.il 1 (aI p))] (rM A p F 4 []) 5 (QG A p F (mD p 0)):=by
 have np:NN (.il 1 (aI p)):=.il' (aG p);have lp:=aE p;refine aL bC func111 rfl ?_;((conv=>whnf);repeat(refine Xg ?_;conv=>whnf));refine a7.at bC (fun z:Nat × List (List Int)=>z.1<=p.length/\z.2++mD p z.1=mD p 0)
  (fun z=>⟨[(0,.yld 0),(1,.ip (.il 1 (aI p))),(6,.int .i64 p.length),(7,.int .i64 z.1)],rM A p (F++cC A p z.2) 5 [],6,46⟩) (fun z=>p.length-z.1) (0,[]) [(0,0),(1,1),(2,2),(3,3),(4,5)] ⟨by simp only;omega,rfl⟩
  (aJ _ rfl (cY (i0:=0) (i1:=1) (i2:=2) (i3:=3) (rid:=4) rfl rfl rfl rfl rfl rfl (fO rfl rfl rfl) rfl rfl rfl (by simp[cC]) rfl (by simp[cC]) trivial)
   ⟨⟨_,rfl,.yld 0 0 rfl⟩,⟨_,rfl,.same _ (dG p)⟩,⟨_,rfl,.int (by rw[lp])⟩,aH,trivial⟩) ?_
 rintro⟨k,X⟩ ⟨hk,hX⟩;simp only at hk hX ⊢;have d1:decide ((k:Int)<(p.length:Int))=decide (k<p.length):=SB.2 (by omega);by_cases hlt:k<p.length
 ·have hlo:mD p k=Er p k (k+1)++mD p (k+1):=by
   conv=>lhs;rw[mD,Rx hlt]
  rw[hlo] at hX;have ek:=dK hlt;have hgk:p.getD k 0=p[k]:=by rw[Rn,Rm hlt];rfl
  ((conv=>whnf);repeat(refine Xg ?_;conv=>whnf));rw[d1,Rs hlt];((conv=>whnf);repeat(refine Xg ?_;conv=>whnf));repeat((first|refine aB.2 ?_|refine aD ?_);(conv=>whnf);repeat(refine Xg ?_;conv=>whnf))
  refine a7.at bC (fun z:Nat × List (List Int)=>k+1<=z.1/\z.1<=k+17/\z.2++(Er p k z.1++mD p (k+1))=mD p 0)
   (fun z=>⟨[(0,.yld 0),(1,.ip (.il 1 (aI p))),(3,.int .i64 k),(4,.int .i64 z.1),(6,.int .i64 p.length),(7,.int .i64 k)],rM A p (F++cC A p z.2) 5 [],6,46⟩) (fun z=>k+17-z.1) (k+1,X) [(0,0),(1,1),(2,2),(3,3),(5,5)] ⟨by simp only;omega,by simp only;omega,hX⟩
   (aJ _ rfl (cY (i0:=0) (i1:=1) (i2:=2) (i3:=3) (rid:=5) rfl rfl rfl rfl rfl rfl (fO rfl rfl rfl) rfl rfl rfl rfl rfl rfl trivial)
    ⟨⟨_,rfl,.yld 0 0 rfl⟩,⟨_,rfl,.same _ (dG p)⟩,aH,⟨_,rfl,.wp⟩,aH,aH,trivial⟩) ?_
  clear hX;rintro⟨j,X⟩ ⟨hj0,hj1,hX⟩;simp only at hj0 hj1 hX ⊢;have dj:decide ((j:Int)<((aI p).length:Int))=decide (j<p.length):=by rw[lp];exact SB.2 (by omega)
  have hout:¬(j<p.length/\j<=k+16)->X++mD p (k+1)=mD p 0:=fun e=>by
   rw[Er,Rp e,SY] at hX;exact hX
  have hin:j<p.length/\j<=k+16->X++(sL p k j++(Er p k (j+1)++mD p (k+1)))=mD p 0:=fun e=>by
   rw[Er,Rx e,SC] at hX;exact hX
  clear hX;by_cases hjl:j<p.length
  ·have hw16:IntKind.i64.wrap ((k:Int)+16)=((k+16:Nat):Int):=w64 (by omega) ⟨by omega,by omega⟩;have d16:decide ((j:Int)<=((k+16:Nat):Int))=decide (j<=k+16):=SB.2 (by omega);((conv=>whnf);repeat(refine Xg ?_;conv=>whnf));rw[dj,Rs hjl];((conv=>whnf);repeat(refine Xg ?_;conv=>whnf));rw[hw16,d16];by_cases hj16:j<=k+16
   ·have hin:=hin ⟨hjl,hj16⟩;have ej:=dK hjl;have hgj:p.getD j 0=p[j]:=by rw[Rn,Rm hjl];rfl
    have hsx:sL p k j=if p.getD k 0<p.getD j 0 then [p.set j (p.getD k 0)] else []:=rfl
    rw[hgk,hgj] at hsx;have hWi:=Nu p j p[k] hp hjl;have hXl:=congrArg List.length hin;rw[Ro,Ro] at hXl;have hrl:=g7 A p X;rw[hsx] at hin hXl;clear hsx hgj hgk;generalize p[k]=a at *;generalize p[j]=c at *;rw[Rs hj16];((conv=>whnf);repeat(refine Xg ?_;conv=>whnf));repeat((first|refine aC ek ?_|refine aC ej ?_|refine aB.2 ?_|refine aD ?_);(conv=>whnf);repeat(refine Xg ?_;conv=>whnf))
    by_cases hac:a<c
    ·rw[Rx hac] at hin hXl;rw[Rs hac];((conv=>whnf);repeat(refine Xg ?_;conv=>whnf));repeat((first|refine aC ek ?_|refine aC ej ?_|refine aB.2 ?_|refine aD ?_);(conv=>whnf);repeat(refine Xg ?_;conv=>whnf))
     refine hWi.go ?_ (.cons np (.cons nn (.cons nn .nil))) (.il' (aG _));((conv=>whnf);repeat(refine Xg ?_;conv=>whnf));repeat((first|refine aC ek ?_|refine aC ej ?_|refine aB.2 ?_|refine aD ?_);(conv=>whnf);repeat(refine Xg ?_;conv=>whnf))
     refine BS h hp (by rw[Sx];exact hp) (by simp only[Ro];simp only[SQ] at hXl;omega) 5 rfl rfl rfl rfl rfl (fun _=>rfl) ?_;have hresn:F++cC A p (X++[p.set j a])=F++cC A p X++cC A p [p.set j a]:=by rw[lC,SC]
     ((conv=>whnf);repeat(refine Xg ?_;conv=>whnf));repeat((first|refine aC ek ?_|refine aC ej ?_|refine aB.2 ?_|refine aD ?_);(conv=>whnf);repeat(refine Xg ?_;conv=>whnf))
     exact .mk (j+1,X++[p.set j a]) [(0,0),(1,1),(2,2),(3,3),(27,5)] ⟨by simp only;omega,by simp only;omega,by simp only;rw[SC];exact hin⟩
      (aJ _ rfl (cY (i0:=0) (i1:=1) (i2:=2) (i3:=3) (rid:=27) rfl rfl rfl rfl rfl rfl (fO rfl rfl rfl) rfl rfl rfl (by rw[hresn]) rfl (by rw[hresn]) trivial)
       ⟨⟨_,rfl,.yld 0 0 rfl⟩,⟨_,rfl,.same _ (dG p)⟩,aH,⟨_,rfl,.wp⟩,aH,aH,trivial⟩) (by simp only;omega)
    ·rw[Rp hac,SY] at hin;rw[R4 hac];((conv=>whnf);repeat(refine Xg ?_;conv=>whnf));repeat((first|refine aC ek ?_|refine aC ej ?_|refine aB.2 ?_|refine aD ?_);(conv=>whnf);repeat(refine Xg ?_;conv=>whnf))
     exact .mk (j+1,X) [(0,0),(1,1),(2,2),(3,3),(5,5)] ⟨by simp only;omega,by simp only;omega,hin⟩
      (aJ _ rfl (cY (i0:=0) (i1:=1) (i2:=2) (i3:=3) (rid:=5) rfl rfl rfl rfl rfl rfl (fO rfl rfl rfl) rfl rfl rfl rfl rfl rfl trivial)
       ⟨⟨_,rfl,.yld 0 0 rfl⟩,⟨_,rfl,.same _ (dG p)⟩,aH,⟨_,rfl,.wp⟩,aH,aH,trivial⟩) (by simp only;omega)
   ·have hout:=hout (fun e=>hj16 e.2);rw[R4 hj16];((conv=>whnf);repeat(refine Xg ?_;conv=>whnf));exact .mk (k+1,X) [(0,0),(1,1),(2,2),(3,3),(5,5)] ⟨by simp only;omega,hout⟩
     (aJ _ rfl (cY (i0:=0) (i1:=1) (i2:=2) (i3:=3) (rid:=5) rfl rfl rfl rfl rfl rfl (fO rfl rfl rfl) rfl rfl rfl rfl rfl rfl trivial)
      ⟨⟨_,rfl,.yld 0 0 rfl⟩,⟨_,rfl,.same _ (dG p)⟩,aH,⟨_,rfl,.wp⟩,trivial⟩) (by simp only;omega)
  ·have hout:=hout (fun e=>hjl e.1);((conv=>whnf);repeat(refine Xg ?_;conv=>whnf));rw[dj,R4 hjl];((conv=>whnf);repeat(refine Xg ?_;conv=>whnf));exact .mk (k+1,X) [(0,0),(1,1),(2,2),(3,3),(5,5)] ⟨by simp only;omega,hout⟩
    (aJ _ rfl (cY (i0:=0) (i1:=1) (i2:=2) (i3:=3) (rid:=5) rfl rfl rfl rfl rfl rfl (fO rfl rfl rfl) rfl rfl rfl rfl rfl rfl trivial)
     ⟨⟨_,rfl,.yld 0 0 rfl⟩,⟨_,rfl,.same _ (dG p)⟩,aH,⟨_,rfl,.wp⟩,trivial⟩) (by simp only;omega)
 ·have hke:k=p.length:=by omega
  rw[mD,Rp hlt,Sh] at hX;rw[hX];((conv=>whnf);repeat(refine Xg ?_;conv=>whnf));rw[d1,R4 hlt];((conv=>whnf);repeat(refine Xg ?_;conv=>whnf));exact bK (n':=6) (m':=rM A p (F++cC A p (mD p 0)) 5 []) [(0,0),(1,1),(2,2),(3,3),(5,5)] rfl (cY (i0:=0) (i1:=1) (i2:=2) (i3:=3) (rid:=5) rfl rfl rfl rfl rfl rfl (fO rfl rfl rfl) rfl rfl rfl rfl rfl rfl trivial) (.same _ (.tup' .nil)) ⟨rfl,rfl,rfl⟩
set_option maxHeartbeats 16000000
theorem fZ{A:List Nd}{p:List Int}(h:Je A p)(e:bV A p=0):VT A:=by
 unfold bV at e;split at e
 ·omega
 ·rename_i h1;split at e
  ·omega
  ·exact⟨h.tin,by omega,by omega⟩
def iW(ks:List Nat)(sp:List Sp)(p:List Int):List (List Int):=ks.flatMap fun k=>cO k sp p
def HR(A:List Nd)(p:List Int)(ks:List Nat):List (List Int):=if bV A p=0 then eH (cC A p (iW ks (bW A p) p)) else []
theorem pI{A:List Nd}{p:List Int}(h:Je A p)(e:bV A p=0):∀s∈bW A p,s.1<=s.2.1/\s.2.1<=s.2.2/\s.2.2<=p.length:=fun s hs=>by
 unfold bW at hs;rw[Rx e] at hs;obtain⟨h1,h2⟩:=tH (A:=A) p A.length (A.length-1) 0 (TC _);have:=h2 s hs;omega
def EL(ks:List Nat):List Int:=ks.map Int.ofNat
theorem Ei{A:List Nd}{p:List Int}{F raws:List (List Int)}{fn:FuncId}{args args':List AV}{sl:List (Nat × AV)}{ps:Array Tmp}{ca cb:Code}{K:AV->aS->Nat->Prop}
  (hIt:aM prog [] fn args' (rM A p F 4 []) 5 (QG A p F raws)) (ha:∀m,iL m [(5,0),(0,1),(1,2),(2,3),(4,4)] args args')
  (s4:lk sl 4=some (.ptr 0 0 0)) (s10:lk sl 10=some (.ptr 1 0 0)) (s12:lk sl 12=some (.ptr 2 0 0)) (e1:ps=KV) (e2:ca=KX) (e3:cb=Lv)
  (hk:K (.tup []) [(5,.loop [(4,.ptr 0 0 0),(10,.ptr 1 0 0),(12,.ptr 2 0 0)] 58 KV KX Lv .ready none),(0,.row 22 1 [.il 1 (aI p)]),(1,.row 85 1 [wk A]),(2,.row 23 1 [.sl 6 0 (F++cC A p raws).length]),(6,.row 22 1 (aZ (F++cC A p raws))),(3,.mapb Cd)] 7) :
  aM prog [] fn args [(5,.loop sl 58 ps ca cb .ready none),(0,.row 22 1 [.il 1 (aI p)]),(1,.row 85 1 [wk A]),(2,.row 23 1 [.sl 4 0 F.length]),(3,.mapb Cd),(4,.row 22 1 (aZ F))] 6 K:=by
 subst e1 e2 e3;refine aM.useN bC [(5,0),(0,1),(1,2),(2,3),(4,4)] hIt rfl (ha _)
  (cY (i0:=5) (i1:=0) (i2:=1) (i3:=2) (rid:=4) rfl rfl rfl rfl rfl rfl ⟨⟨_,s4,.ptr 0 1 0 0 rfl⟩,⟨_,s10,.ptr 1 2 0 0 rfl⟩,⟨_,s12,.ptr 2 3 0 0 rfl⟩,trivial⟩ rfl rfl rfl rfl rfl rfl trivial) rfl ?_
 rintro r m k ⟨rfl,rfl,rfl⟩;refine⟨[(0,5),(1,0),(2,1),(3,2),(5,6)],.tup [],[(5,.loop [(4,.ptr 0 0 0),(10,.ptr 1 0 0),(12,.ptr 2 0 0)] 58 KV KX Lv .ready none),(0,.row 22 1 [.il 1 (aI p)]),(1,.row 85 1 [wk A]),(2,.row 23 1 [.sl 6 0 (F++cC A p raws).length]),(6,.row 22 1 (aZ (F++cC A p raws)))],7,.same _ (.tup' .nil),
  ⟨⟨0,_,rfl,rfl,(p9.get ⟨⟨_,rfl,.ptr 1 0 0 0 rfl⟩,⟨_,rfl,.ptr 2 1 0 0 rfl⟩,⟨_,rfl,.ptr 3 2 0 0 rfl⟩,trivial⟩)⟩,⟨1,_,rfl,rfl,.same (.cons (.il' (aG p)) .nil)⟩,⟨2,_,rfl,rfl,.same (.cons (eM A) .nil)⟩,⟨3,_,rfl,rfl,.cons (.one rfl rfl (.slE rfl rfl)) .nil⟩,⟨5,_,rfl,rfl,.same (aU _)⟩,trivial⟩,rfl,hk⟩
theorem FE{A:List Nd}{p:List Int}(h:Je A p)(ks:List Nat)(hk4:∀k∈ks,k<4)(hkl:ks.length<=4)(hb:bV A p=0->(iW ks (bW A p) p).length<=5120030000000) :
  a8 prog [] 39 [.agg [.il 12 (aR A)],.il 1 (aI p),.il 1 (aI (EL ks))] (.tup [.il 1 (aZ (HR A p ks)),.int .i64 (bV A p)]):=by
 have nA:NN (.il 12 (aR A)):=.il' (aQ A);have np:NN (.il 1 (aI p)):=.il' (aG p);have nk:NN (.il 1 (aI (EL ks))):=.il' (aG _);have hpl:=h.len;have hSp:=OR h;have hR:HR A p ks=if bV A p=0 then eH (cC A p (iW ks (bW A p) p)) else []:=rfl
 have hvt:=fun e=>fZ h e
 have hsi:=fun e=>pI h e
 have hsl:(bW A p).length<=4294967296:=by
  unfold bW;split
  ·rename_i e;have hv:=fZ h e;exact h.cnt hv A.length (A.length-1) 0 (by have:=hv.pos;omega) (by have:=hv.pos;omega)
  ·simp
 generalize HR A p ks=R at *;generalize bV A p=E at *;generalize bW A p=sp at *;refine aL bC func39 rfl ?_;((conv=>whnf);repeat(refine Xg ?_;conv=>whnf));refine hSp.go ?_ (.cons (.agg' (.cons nA .nil)) (.cons np .nil)) (.tup' (.cons (.il' (dQ _)) (.cons nn .nil)));((conv=>whnf);repeat(refine Xg ?_;conv=>whnf));repeat((first|refine aB.2 ?_|refine aD ?_);(conv=>whnf);repeat(refine Xg ?_;conv=>whnf))
 refine aO (fun hb'=>?_) (fun hb'=>?_)
 ·have h0:E≠0:=by simpa using hb'
  rw[Rp h0] at hR;rw[hR];((conv=>whnf);repeat(refine Xg ?_;conv=>whnf));exact bF (r':=.tup [.il 1 (aZ []),.int .i64 E]) (.tup' (.cons (.nil 1) (.s .nil))) ⟨rfl,rfl,rfl⟩
 ·have h0:E=0:=by simpa using hb'
  subst h0;have hb:=hb rfl;have hv:=hvt rfl;have hsi:=hsi rfl;rw[Rx rfl] at hR;have hN:=Qx hv;have nsp:NN (.il 3 (bQ sp)):=.il' (dQ sp);have lk':(aI (EL ks)).length=ks.length:=by rw[aE];simp[EL]
  rw[hR];((conv=>whnf);repeat(refine Xg ?_;conv=>whnf));refine hN.go ?_ (.cons (.agg' (.cons nA .nil)) .nil) (eM A);((conv=>whnf);repeat(refine Xg ?_;conv=>whnf));refine aM.useN bC [] Mc rfl .nil trivial rfl ?_;rintro r m k ⟨rfl,rfl,rfl⟩;refine⟨[(0,3)],.mp 3,[(3,.mapb Cd)],4,.mp 0 3 rfl,⟨⟨0,_,rfl,rfl,pY⟩,trivial⟩,rfl, ?_⟩;((conv=>whnf);repeat(refine Xg ?_;conv=>whnf));refine a7.ph 22 1 ?_;refine a7.at bC (fun k:Nat=>k<=ks.length)
   (fun k=>⟨[(4,.ptr 0 0 0),(8,.il 3 (bQ sp)),(10,.ptr 1 0 0),(11,.mp 3),(12,.ptr 2 0 0),(29,.il 1 (aI (EL ks))),(30,.int .i64 ks.length),(31,.int .i64 k)],
    [(0,.row 22 1 [.il 1 (aI p)]),(1,.row 85 1 [wk A]),(2,.row 23 1 [.sl 4 0 (cC A p (iW (ks.take k) sp p)).length]),(3,.mapb Cd),(4,.row 22 1 (aZ (cC A p (iW (ks.take k) sp p))))],5,58⟩)
   (fun k=>ks.length-k) 0 [(1,0),(2,1),(4,2),(3,3),(5,4)] (by omega)
   (aJ _ rfl ⟨⟨1,_,rfl,rfl,.same (.cons np .nil)⟩,⟨2,_,rfl,rfl,.same (.cons (eM A) .nil)⟩,⟨4,_,rfl,rfl,.cons (.one rfl rfl (.nslk 5 4 _ rfl rfl)) .nil⟩,⟨3,_,rfl,rfl,pY⟩,⟨5,_,rfl,rfl,.nil⟩,trivial⟩
    ⟨⟨_,rfl,.ptr 1 0 0 0 rfl⟩,⟨_,rfl,.same _ nsp⟩,⟨_,rfl,.ptr 2 1 0 0 rfl⟩,⟨_,rfl,.mp 3 3 rfl⟩,⟨_,rfl,.ptr 4 2 0 0 rfl⟩,⟨_,rfl,.same _ nk⟩,⟨_,rfl,.int (by rw[lk'])⟩,aH,trivial⟩) ?_
  intro k hk;have dk:decide ((k:Int)<(ks.length:Int))=decide (k<ks.length):=SB.2 (by omega);by_cases hlt:k<ks.length
  ·have h4:=hk4 _ (SI hlt);have ek:(aI (EL ks))[((k:Nat):Int).toNat]? = some (.int .i64 (ks[k]:Int)):=by
    rw[Rq,bG];unfold EL;rw[So,Rm hlt];rfl
   have hnx:iW (ks.take (k+1)) sp p=iW (ks.take k) sp p++cO ks[k] sp p:=by
    unfold iW;rw[Rv hlt,S8];simp
   have hle:(iW (ks.take (k+1)) sp p).length<=(iW ks sp p).length:=by
    unfold iW
    conv=>rhs;rw[←Go.Ax.SW (k+1) ks]
    rw[S8,Ro];omega
   have hresn:cC A p (iW (ks.take (k+1)) sp p)=cC A p (iW (ks.take k) sp p)++cC A p (cO ks[k] sp p):=by rw[hnx,lC]
   have hrl:=g7 A p (iW (ks.take k) sp p);rw[hnx,Ro] at hle;have hfl:(cC A p (iW (ks.take k) sp p)).length+(cO ks[k] sp p).length<=5120030000000:=by omega
   clear hnx hle hrl;generalize cC A p (iW (ks.take k) sp p)=F at *;generalize ks[k]=kk at *
   match kk,h4 with
   | 0,_=>
    have hIt:=Jr hv p sp F (by omega) h.i64 hsi hsl (by have:(cO 0 sp p)=dL p sp:=rfl;rw[this] at hfl;omega);rw[show cO 0 sp p=dL p sp from rfl] at hresn;((conv=>whnf);repeat(refine Xg ?_;conv=>whnf));rw[dk,Rs hlt];((conv=>whnf);repeat(refine Xg ?_;conv=>whnf));repeat((first|refine aC ek ?_|refine aB.2 ?_|refine aD ?_);(conv=>whnf);repeat(refine Xg ?_;conv=>whnf))
    refine(Ke sp p).go ?_ (.cons np (.cons nsp .nil)) (Kl _ _ _);((conv=>whnf);repeat(refine Xg ?_;conv=>whnf));repeat((first|refine aB.2 ?_|refine aD ?_);(conv=>whnf);repeat(refine Xg ?_;conv=>whnf))
    refine Ei hIt (fun m=>.cons (.yld 5 0 rfl) (.cons (.same _ (wX sp)) (.cons (.same _ (dG p)) .nil))) (by rfl) (by rfl) (by rfl) (by kernel_rfl) (by kernel_rfl) (by kernel_rfl) ?_;((conv=>whnf);repeat(refine Xg ?_;conv=>whnf));exact .mk (k+1) [(0,0),(1,1),(2,2),(3,3),(6,4)] (by omega)
     (aJ _ rfl ⟨⟨0,_,rfl,rfl,.same (.cons np .nil)⟩,⟨1,_,rfl,rfl,.same (.cons (eM A) .nil)⟩,⟨2,_,rfl,rfl,.cons (.one rfl rfl (.slE rfl (by rw[hresn]))) .nil⟩,⟨3,_,rfl,rfl,pY⟩,⟨6,_,rfl,rfl,.eq (aU _) (by rw[hresn])⟩,trivial⟩
      ⟨⟨_,rfl,.ptr 0 0 0 0 rfl⟩,⟨_,rfl,.same _ nsp⟩,⟨_,rfl,.ptr 1 1 0 0 rfl⟩,⟨_,rfl,.mp 3 3 rfl⟩,⟨_,rfl,.ptr 2 2 0 0 rfl⟩,⟨_,rfl,.same _ nk⟩,aH,⟨_,rfl,.wo⟩,trivial⟩) (by omega)
   | 1,_=>
    have hIt:=J4 hv p F (by omega) h.i64 (by have:(cO 1 sp p)=nT p 0:=rfl;rw[this] at hfl;omega);rw[show cO 1 sp p=nT p 0 from rfl] at hresn;((conv=>whnf);repeat(refine Xg ?_;conv=>whnf));rw[dk,Rs hlt];((conv=>whnf);repeat(refine Xg ?_;conv=>whnf));repeat((first|refine aC ek ?_|refine aB.2 ?_|refine aD ?_);(conv=>whnf);repeat(refine Xg ?_;conv=>whnf))
    refine(Mq sp p).go ?_ (.cons np (.cons nsp .nil)) (KC _ _);((conv=>whnf);repeat(refine Xg ?_;conv=>whnf));repeat((first|refine aB.2 ?_|refine aD ?_);(conv=>whnf);repeat(refine Xg ?_;conv=>whnf))
    refine Ei hIt (fun m=>.cons (.yld 5 0 rfl) (.cons (.same _ (dG p)) .nil)) (by rfl) (by rfl) (by rfl) (by kernel_rfl) (by kernel_rfl) (by kernel_rfl) ?_;((conv=>whnf);repeat(refine Xg ?_;conv=>whnf));exact .mk (k+1) [(0,0),(1,1),(2,2),(3,3),(6,4)] (by omega)
     (aJ _ rfl ⟨⟨0,_,rfl,rfl,.same (.cons np .nil)⟩,⟨1,_,rfl,rfl,.same (.cons (eM A) .nil)⟩,⟨2,_,rfl,rfl,.cons (.one rfl rfl (.slE rfl (by rw[hresn]))) .nil⟩,⟨3,_,rfl,rfl,pY⟩,⟨6,_,rfl,rfl,.eq (aU _) (by rw[hresn])⟩,trivial⟩
      ⟨⟨_,rfl,.ptr 0 0 0 0 rfl⟩,⟨_,rfl,.same _ nsp⟩,⟨_,rfl,.ptr 1 1 0 0 rfl⟩,⟨_,rfl,.mp 3 3 rfl⟩,⟨_,rfl,.ptr 2 2 0 0 rfl⟩,⟨_,rfl,.same _ nk⟩,aH,⟨_,rfl,.wo⟩,trivial⟩) (by omega)
   | 2,_=>
    have hIt:=MQ hv p sp F (by omega) hsi hsl (by have:(cO 2 sp p)=dY p sp:=rfl;rw[this] at hfl;omega);rw[show cO 2 sp p=dY p sp from rfl] at hresn;((conv=>whnf);repeat(refine Xg ?_;conv=>whnf));rw[dk,Rs hlt];((conv=>whnf);repeat(refine Xg ?_;conv=>whnf));repeat((first|refine aC ek ?_|refine aB.2 ?_|refine aD ?_);(conv=>whnf);repeat(refine Xg ?_;conv=>whnf))
    refine(OM sp p).go ?_ (.cons np (.cons nsp .nil)) (Kl _ _ _);((conv=>whnf);repeat(refine Xg ?_;conv=>whnf));repeat((first|refine aB.2 ?_|refine aD ?_);(conv=>whnf);repeat(refine Xg ?_;conv=>whnf))
    refine Ei hIt (fun m=>.cons (.yld 5 0 rfl) (.cons (.same _ (wX sp)) (.cons (.same _ (dG p)) .nil))) (by rfl) (by rfl) (by rfl) (by kernel_rfl) (by kernel_rfl) (by kernel_rfl) ?_;((conv=>whnf);repeat(refine Xg ?_;conv=>whnf));exact .mk (k+1) [(0,0),(1,1),(2,2),(3,3),(6,4)] (by omega)
     (aJ _ rfl ⟨⟨0,_,rfl,rfl,.same (.cons np .nil)⟩,⟨1,_,rfl,rfl,.same (.cons (eM A) .nil)⟩,⟨2,_,rfl,rfl,.cons (.one rfl rfl (.slE rfl (by rw[hresn]))) .nil⟩,⟨3,_,rfl,rfl,pY⟩,⟨6,_,rfl,rfl,.eq (aU _) (by rw[hresn])⟩,trivial⟩
      ⟨⟨_,rfl,.ptr 0 0 0 0 rfl⟩,⟨_,rfl,.same _ nsp⟩,⟨_,rfl,.ptr 1 1 0 0 rfl⟩,⟨_,rfl,.mp 3 3 rfl⟩,⟨_,rfl,.ptr 2 2 0 0 rfl⟩,⟨_,rfl,.same _ nk⟩,aH,⟨_,rfl,.wo⟩,trivial⟩) (by omega)
   | 3,_=>
    have hIt:=LM hv p F (by omega) (by have:(cO 3 sp p)=mD p 0:=rfl;rw[this] at hfl;omega);rw[show cO 3 sp p=mD p 0 from rfl] at hresn;((conv=>whnf);repeat(refine Xg ?_;conv=>whnf));rw[dk,Rs hlt];((conv=>whnf);repeat(refine Xg ?_;conv=>whnf));repeat((first|refine aC ek ?_|refine aB.2 ?_|refine aD ?_);(conv=>whnf);repeat(refine Xg ?_;conv=>whnf))
    refine(Nl sp p).go ?_ (.cons np (.cons nsp .nil)) (KC _ _);((conv=>whnf);repeat(refine Xg ?_;conv=>whnf));repeat((first|refine aB.2 ?_|refine aD ?_);(conv=>whnf);repeat(refine Xg ?_;conv=>whnf))
    refine Ei hIt (fun m=>.cons (.yld 5 0 rfl) (.cons (.same _ (dG p)) .nil)) (by rfl) (by rfl) (by rfl) (by kernel_rfl) (by kernel_rfl) (by kernel_rfl) ?_;((conv=>whnf);repeat(refine Xg ?_;conv=>whnf));exact .mk (k+1) [(0,0),(1,1),(2,2),(3,3),(6,4)] (by omega)
     (aJ _ rfl ⟨⟨0,_,rfl,rfl,.same (.cons np .nil)⟩,⟨1,_,rfl,rfl,.same (.cons (eM A) .nil)⟩,⟨2,_,rfl,rfl,.cons (.one rfl rfl (.slE rfl (by rw[hresn]))) .nil⟩,⟨3,_,rfl,rfl,pY⟩,⟨6,_,rfl,rfl,.eq (aU _) (by rw[hresn])⟩,trivial⟩
      ⟨⟨_,rfl,.ptr 0 0 0 0 rfl⟩,⟨_,rfl,.same _ nsp⟩,⟨_,rfl,.ptr 1 1 0 0 rfl⟩,⟨_,rfl,.mp 3 3 rfl⟩,⟨_,rfl,.ptr 2 2 0 0 rfl⟩,⟨_,rfl,.same _ nk⟩,aH,⟨_,rfl,.wo⟩,trivial⟩) (by omega)
  ·have hke:k=ks.length:=by omega
   have hF:=wJ hv p (iW (ks.take k) sp p);have hFl:=g7 A p (iW (ks.take k) sp p);rw[hke,SD] at hF hFl ⊢;generalize hFe:cC A p (iW ks sp p)=F at *;have hSo:=QA F (by omega) (fun q hq=>by have:=hF q hq;omega);((conv=>whnf);repeat(refine Xg ?_;conv=>whnf));rw[show decide (((ks.length:Nat):Int)<(ks.length:Int))=false by simp];((conv=>whnf);repeat(refine Xg ?_;conv=>whnf));refine hSo.frz [4] bC (.cons (dT (id:=4) rfl (bA F).symm rfl (aU F)) .nil) (.il' (aU _)) ?_;((conv=>whnf);repeat(refine Xg ?_;conv=>whnf));exact bF (r':=.tup [.il 1 (aZ (eH F)),.int .i64 0]) (.same _ (.tup' (.cons (.il' (aU _)) (.cons nn .nil)))) ⟨rfl,rfl,rfl⟩
set_option maxHeartbeats 16000000
theorem DV{k:Nat}{sp:List Sp}{p:List Int}:iW [k] sp p=cO k sp p:=by simp[iW]
def dF(A:List Nd)(p:List Int)(which:Nat):List (List Int):=if bV A p=0 then eH (cC A p (cO which (bW A p) p)) else []
theorem LX{A:List Nd}{p:List Int}{k:Nat}:HR A p [k]=dF A p k:=by unfold HR dF;rw[DV]
structure PB(A:List Nd)(p:List Int):Prop extends Je A p where
 cntA:VT A->∀p f i a0,i<f->i<A.length->(a6 A p f i a0).spans.length<=4294967296
 raws:∀which,bV A p=0->(cO which (bW A p) p).length<=5120030000000
theorem PB.res{A:List Nd}{p:List Int}(h:PB A p){k:Nat}(hk:k<4):a8 prog [] 39 [.agg [.il 12 (aR A)],.il 1 (aI p),.il 1 (aI (EL [k]))] (.tup [.il 1 (aZ (dF A p k)),.int .i64 (bV A p)]):=by
 rw[←LX];exact FE h.toJe [k] (by simpa using hk) (by simp) (fun e=>by rw[DV];exact h.raws k e)
theorem Lr{A:List Nd}{p:List Int}(h:PB A p):a8 prog [] 31 [.agg [.il 12 (aR A)],.il 1 (aI p)] (.tup [.il 1 (aZ (dF A p 3)),.int .i64 (bV A p)]):=by
 have nA:NN (.il 12 (aR A)):=.il' (aQ A);have np:NN (.il 1 (aI p)):=.il' (aG p);have hR:=h.res (k:=3) (by omega);generalize dF A p 3=R at *;generalize bV A p=E at *;refine aL bC func31 rfl ?_;((conv=>whnf);repeat(refine Xg ?_;conv=>whnf));refine hR.frz [1] bC (.cons (.same _ (.agg' (.cons nA .nil))) (.cons (.same _ np) (.cons (dT (id:=1) rfl rfl rfl (aG _)) .nil))) (.tup' (.cons (.il' (aU _)) (.cons nn .nil))) ?_;((conv=>whnf);repeat(refine Xg ?_;conv=>whnf));repeat((first|refine aB.2 ?_|refine aD ?_);(conv=>whnf);repeat(refine Xg ?_;conv=>whnf))
 exact bF (r':=.tup [.il 1 (aZ R),.int .i64 E]) (.same _ (.tup' (.cons (.il' (aU _)) (.cons nn .nil)))) ⟨rfl,rfl,rfl⟩
set_option maxHeartbeats 16000000
theorem KL(p:List Int)(i:Nat)(c:Int)(hp:p.length<=1000000000)(hi:i<p.length):a8 prog [] 102 [.il 1 (aI p),.int .i64 i,.int .i64 c] (.il 1 (aI (p.set i c))):=by
 have np:NN (.il 1 (aI p)):=.il' (aG p);have lp:=aE p;have ep:=dK hi;have g1:Nat.blt ((i:Nat):Int).toNat p.length=true:=Ru (by simp;omega);have hs:=vP p i c;generalize p[i]=z at *;refine aL bC func102 rfl ?_;((conv=>whnf);repeat(refine Xg ?_;conv=>whnf));refine aK (x5 rfl (by omega)) ?_;((conv=>whnf);repeat(refine Xg ?_;conv=>whnf));rw[lp];have ep0:(aI p)[0+((i:Nat):Int).toNat]? = some (.int .i64 z):=by rw[SF];exact ep
 repeat((first|refine aK g1 ?_|refine aC ep0 ?_|refine aB.2 ?_|refine aD ?_);(conv=>whnf);repeat(refine Xg ?_;conv=>whnf))
 exact bF (r':=.il 1 (aI (p.set i c))) (dT (id:=0) rfl (by simp[lp]) (by rw[hs,SF,Rq]) (aG _)) ⟨rfl,rfl,rfl⟩
theorem IP(p:List Int)(hp:p.length<=1000000000)(hF:(mD p 0).length<=5864062014000) :
  a8 prog [] 74 [.il 1 (aI p)] (.il 1 (aZ (mD p 0))):=by
 have np:NN (.il 1 (aI p)):=.il' (aG p);have lp:=aE p;refine aL bC func74 rfl ?_;((conv=>whnf);repeat(refine Xg ?_;conv=>whnf));refine a7.ph 22 1 ?_;refine a7.at bC (fun z:Nat × List (List Int)=>z.1<=p.length/\z.2++mD p z.1=mD p 0)
  (fun z=>⟨[(0,.il 1 (aI p)),(3,.sl 0 0 z.2.length),(4,.int .i64 z.1)],[(0,.row 22 1 (aZ z.2))],1,46⟩) (fun z=>p.length-z.1) (0,[]) [(0,0)] ⟨by simp only;omega,rfl⟩
  (aJ _ rfl ⟨⟨0,_,rfl,rfl,.nil⟩,trivial⟩ ⟨⟨_,rfl,.same _ np⟩,⟨_,rfl,.nslk 0 0 _ rfl rfl⟩,aH,trivial⟩) ?_
 rintro⟨k,X⟩ ⟨hk,hX⟩;simp only at hk hX ⊢;have d1:decide ((k:Int)<(p.length:Int))=decide (k<p.length):=SB.2 (by omega);by_cases hlt:k<p.length
 ·have hlo:mD p k=Er p k (k+1)++mD p (k+1):=by
   conv=>lhs;rw[mD,Rx hlt]
  rw[hlo] at hX;have ek:=dK hlt;have hgk:p.getD k 0=p[k]:=by rw[Rn,Rm hlt];rfl
  ((conv=>whnf);repeat(refine Xg ?_;conv=>whnf));rw[lp,d1,Rs hlt];((conv=>whnf);repeat(refine Xg ?_;conv=>whnf));repeat((first|refine aB.2 ?_|refine aD ?_);(conv=>whnf);repeat(refine Xg ?_;conv=>whnf))
  refine a7.at bC (fun z:Nat × List (List Int)=>k+1<=z.1/\z.1<=k+17/\z.2++(Er p k z.1++mD p (k+1))=mD p 0)
   (fun z=>⟨[(0,.il 1 (aI p)),(3,.sl 0 0 z.2.length),(4,.int .i64 k),(5,.int .i64 z.1)],[(0,.row 22 1 (aZ z.2))],1,46⟩) (fun z=>k+17-z.1) (k+1,X) [(0,0)] ⟨by simp only;omega,by simp only;omega,hX⟩
   (aJ _ rfl ⟨⟨0,_,rfl,rfl,.same (aU _)⟩,trivial⟩
    ⟨⟨_,rfl,.same _ np⟩,⟨_,rfl,.slE rfl rfl⟩,aH,⟨_,rfl,.wp⟩,trivial⟩) ?_
  clear hX;rintro⟨j,X⟩ ⟨hj0,hj1,hX⟩;simp only at hj0 hj1 hX ⊢;have dj:decide ((j:Int)<((aI p).length:Int))=decide (j<p.length):=by rw[lp];exact SB.2 (by omega)
  have hout:¬(j<p.length/\j<=k+16)->X++mD p (k+1)=mD p 0:=fun e=>by
   rw[Er,Rp e,SY] at hX;exact hX
  have hin:j<p.length/\j<=k+16->X++(sL p k j++(Er p k (j+1)++mD p (k+1)))=mD p 0:=fun e=>by
   rw[Er,Rx e,SC] at hX;exact hX
  clear hX;have lX:=bA X;by_cases hjl:j<p.length
  ·have hw16:IntKind.i64.wrap ((k:Int)+16)=((k+16:Nat):Int):=w64 (by omega) ⟨by omega,by omega⟩;have d16:decide ((j:Int)<=((k+16:Nat):Int))=decide (j<=k+16):=SB.2 (by omega);((conv=>whnf);repeat(refine Xg ?_;conv=>whnf));rw[dj,Rs hjl];((conv=>whnf);repeat(refine Xg ?_;conv=>whnf));rw[hw16,d16];by_cases hj16:j<=k+16
   ·have hin:=hin ⟨hjl,hj16⟩;have ej:=dK hjl;have hgj:p.getD j 0=p[j]:=by rw[Rn,Rm hjl];rfl
    have hsx:sL p k j=if p.getD k 0<p.getD j 0 then [p.set j (p.getD k 0)] else []:=rfl
    rw[hgk,hgj] at hsx;have hWi:=KL p j p[k] hp hjl;have hXl:=congrArg List.length hin;rw[Ro,Ro] at hXl;rw[hsx] at hin hXl;clear hsx hgj hgk;generalize p[k]=a at *;generalize p[j]=c at *;rw[Rs hj16];((conv=>whnf);repeat(refine Xg ?_;conv=>whnf));repeat((first|refine aC ek ?_|refine aC ej ?_|refine aB.2 ?_|refine aD ?_);(conv=>whnf);repeat(refine Xg ?_;conv=>whnf))
    by_cases hac:a<c
    ·rw[Rx hac] at hin hXl;rw[Rs hac];((conv=>whnf);repeat(refine Xg ?_;conv=>whnf));repeat((first|refine aC ek ?_|refine aC ej ?_|refine aB.2 ?_|refine aD ?_|refine hWi.go ?_ (.cons np (.cons nn (.cons nn .nil))) (.il' (aG _)));(conv=>whnf);repeat(refine Xg ?_;conv=>whnf))
     refine aK (kS rfl rfl (by rw[lX]) (by simp only[SQ] at hXl;simp;omega)) ?_;((conv=>whnf);repeat(refine Xg ?_;conv=>whnf));repeat((first|refine aC ek ?_|refine aC ej ?_|refine aB.2 ?_|refine aD ?_);(conv=>whnf);repeat(refine Xg ?_;conv=>whnf))
     exact .mk (j+1,X++[p.set j a]) [(11,0)] ⟨by simp only;omega,by simp only;omega,by simp only;rw[SC];exact hin⟩
      (aJ _ rfl ⟨⟨11,_,rfl,rfl,.eq (aU _) (by simp[aZ])⟩,trivial⟩
       ⟨⟨_,rfl,.same _ np⟩,⟨_,rfl,.slE rfl (by simp)⟩,aH,⟨_,rfl,.wp⟩,trivial⟩) (by simp only;omega)
    ·rw[Rp hac,SY] at hin;rw[R4 hac];((conv=>whnf);repeat(refine Xg ?_;conv=>whnf));repeat((first|refine aC ek ?_|refine aC ej ?_|refine aB.2 ?_|refine aD ?_);(conv=>whnf);repeat(refine Xg ?_;conv=>whnf))
     exact .mk (j+1,X) [(0,0)] ⟨by simp only;omega,by simp only;omega,hin⟩
      (aJ _ rfl ⟨⟨0,_,rfl,rfl,.same (aU _)⟩,trivial⟩
       ⟨⟨_,rfl,.same _ np⟩,⟨_,rfl,.slE rfl rfl⟩,aH,⟨_,rfl,.wp⟩,trivial⟩) (by simp only;omega)
   ·have hout:=hout (fun e=>hj16 e.2);rw[R4 hj16];((conv=>whnf);repeat(refine Xg ?_;conv=>whnf));exact .mk (k+1,X) [(0,0)] ⟨by simp only;omega,hout⟩
     (aJ _ rfl ⟨⟨0,_,rfl,rfl,.same (aU _)⟩,trivial⟩
      ⟨⟨_,rfl,.same _ np⟩,⟨_,rfl,.slE rfl rfl⟩,⟨_,rfl,.wp⟩,trivial⟩) (by simp only;omega)
  ·have hout:=hout (fun e=>hjl e.1);((conv=>whnf);repeat(refine Xg ?_;conv=>whnf));rw[dj,R4 hjl];((conv=>whnf);repeat(refine Xg ?_;conv=>whnf));exact .mk (k+1,X) [(0,0)] ⟨by simp only;omega,hout⟩
    (aJ _ rfl ⟨⟨0,_,rfl,rfl,.same (aU _)⟩,trivial⟩
     ⟨⟨_,rfl,.same _ np⟩,⟨_,rfl,.slE rfl rfl⟩,⟨_,rfl,.wp⟩,trivial⟩) (by simp only;omega)
 ·have hke:k=p.length:=by omega
  rw[mD,Rp hlt,Sh] at hX;rw[hX];((conv=>whnf);repeat(refine Xg ?_;conv=>whnf));rw[lp,d1,R4 hlt];((conv=>whnf);repeat(refine Xg ?_;conv=>whnf));exact bF (dT (id:=0) rfl (bA _).symm rfl (aU _)) ⟨rfl,rfl,rfl⟩
set_option maxHeartbeats 16000000
end Go.Proofs.YthempfhilcmfnaaGreat
namespace Go.Ax
open Go
def o8(p q:List Int):Prop:=q.length<=p.length/\∀x∈q,i64 x
theorem o8.cut{p q:List Int}{b e:Nat}(h:o8 p q)(h1:b<=e):o8 p (jK q b e):=by
 refine⟨?_,fun x hx=>?_⟩
 ·have:=h.1;unfold jK;rw[Ro,SX,Tj];omega
 ·unfold jK at hx;rcases R5.1 hx with h2|h2
  ·exact h.2 x (Se h2)
  ·exact h.2 x (Sq h2)
theorem o8.set{p q:List Int}{i:Nat}{v:Int}(h:o8 p q)(hv:i64 v):o8 p (q.set i v):=by
 refine⟨by rw[Sx];exact h.1,fun x hx=>?_⟩;rcases TT hx with h2|h2
 ·exact h.2 x h2
 ·rw[h2];exact hv
theorem o8.get{p q:List Int}(h:o8 p q)(i:Nat):i64 (q.getD i 0):=by
 rw[Rn];cases e:q[i]? with
 | none=>exact⟨by simp,by simp⟩
 | some v=>exact h.2 v (R3 e)
theorem MD{p:List Int}(hp:∀x∈p,i64 x){s:Sp}(h1:s.2.1<=s.2.2):∀q∈CV p s,o8 p q:=fun q hq=>by
 have h:o8 p p:=⟨R2 _,hp⟩
 unfold CV at hq;rcases Rz.1 hq with rfl|hq
 ·exact h.cut h1
 ·split at hq
  ·rename_i hc;rw[TP] at hq;subst hq;have:=h.get (s.1-1);exact(h.set ⟨by have:=this.1;omega,by have:=this.2;omega⟩).cut h1
  ·cases hq
theorem KQ{p:List Int}(hp:∀x∈p,i64 x){sp:List Sp}(hb:∀s∈sp,s.1<=s.2.1/\s.2.1<=s.2.2/\s.2.2<=p.length):∀q∈dL p sp,o8 p q:=fun q hq=>by
 unfold dL at hq;obtain⟨s,hs,hq⟩:=T5.1 hq;exact MD hp (hb s hs).2.1 q hq
theorem NM{p:List Int}(hp:∀x∈p,i64 x)(k:Nat):∀q∈BF p k,o8 p q:=fun q hq=>by
 have h:o8 p p:=⟨R2 _,hp⟩
 have hg:=h.get k;unfold BF at hq;split at hq
 ·rename_i hc;have h1:(p.getD k 0).tdiv 2<=p.getD k 0:=Int.tdiv_le_self _ (by omega);have h2:0<=(p.getD k 0).tdiv 2:=TF (by omega) (by omega);obtain⟨g1,g2⟩:=hg;simp only[Rz,UR,or_false] at hq;rcases hq with rfl|rfl|rfl
  ·exact h.set ⟨by omega,by omega⟩
  ·exact h.set ⟨by omega,by omega⟩
  ·exact h.set ⟨by omega,by omega⟩
 ·cases hq
theorem LD{p:List Int}(hp:∀x∈p,i64 x):∀n k,p.length-k=n->∀q∈nT p k,o8 p q
 | 0,k,h=>by rw[nT,Rp (by omega)];simp
 | n+1,k,h=>by
  intro q hq;rw[nT,Rx (by omega)] at hq;rcases R5.1 hq with h2|h2
  ·exact NM hp k q h2
  ·exact LD hp n (k+1) (by omega) q h2
theorem MA{p:List Int}(hp:∀x∈p,i64 x){x y:Sp}(h1:x.2.1<=x.2.2)(h2:y.2.1<=y.2.2)(h3:y.2.2<=p.length)(h4:x.2.2=y.2.1):o8 p (LP p x y):=by
 unfold LP;refine⟨?_,fun z hz=>?_⟩
 ·simp only[Ro,SX,Tj];omega
 ·simp only[R5] at hz;rcases hz with((hz|hz)|hz)|hz
  ·exact hp z (Se hz)
  ·exact hp z (Sq (Se hz))
  ·exact hp z (Sq (Se hz))
  ·exact hp z (Sq hz)
theorem Fk{p:List Int}(hp:∀x∈p,i64 x):∀{sp:List Sp},(∀s∈sp,s.1<=s.2.1/\s.2.1<=s.2.2/\s.2.2<=p.length)->∀q∈dY p sp,o8 p q
 | [],_,q,hq=>by simp[dY] at hq
 | x::r,hb,q,hq=>by
  rw[dY] at hq;rcases R5.1 hq with h2|h2
  ·obtain⟨y,hy,hq⟩:=T5.1 h2;unfold gH at hq;split at hq
   ·rename_i hc;rw[TP] at hq;subst hq;have b1:=hb x (SL ..);have b2:=hb y (SE _ hy);exact MA hp b1.2.1 b2.2.1 b2.2.2 hc.2
   ·cases hq
  ·exact Fk hp (fun s hs=>hb s (SE _ hs)) q h2
theorem KS{p:List Int}(hp:∀x∈p,i64 x)(i:Nat):∀n j,p.length-j=n->∀q∈Er p i j,o8 p q
 | 0,j,h=>by rw[Er,Rp (by omega)];simp
 | n+1,j,h=>by
  intro q hq;have h0:o8 p p:=⟨R2 _,hp⟩
  rw[Er] at hq;split at hq
  ·rcases R5.1 hq with h2|h2
   ·unfold sL at h2;split at h2
    ·rw[TP] at h2;subst h2;exact h0.set (h0.get i)
    ·cases h2
   ·exact KS hp i n (j+1) (by omega) q h2
  ·cases hq
theorem Kw{p:List Int}(hp:∀x∈p,i64 x):∀n i,p.length-i=n->∀q∈mD p i,o8 p q
 | 0,i,h=>by rw[mD,Rp (by omega)];simp
 | n+1,i,h=>by
  intro q hq;rw[mD,Rx (by omega)] at hq;rcases R5.1 hq with h2|h2
  ·exact KS hp i _ (i+1) rfl q h2
  ·exact Kw hp n (i+1) (by omega) q h2
theorem xI{p:List Int}(hp:∀x∈p,i64 x){sp:List Sp}(hb:∀s∈sp,s.1<=s.2.1/\s.2.1<=s.2.2/\s.2.2<=p.length)(which:Nat):∀q∈cO which sp p,o8 p q:=fun q hq=>by
 have h1:=KQ hp hb;have h2:=LD hp _ 0 rfl;have h3:=Fk hp hb;have h4:=Kw hp _ 0 rfl;unfold cO at hq;split at hq
 ·exact h1 q hq
 ·exact h2 q hq
 ·exact h3 q hq
 ·exact h4 q hq
 ·simp only[R5] at hq;rcases hq with hq|hq|hq|hq
  ·exact h1 q hq
  ·exact h2 q hq
  ·exact h3 q hq
  ·exact h4 q hq
theorem Jn(A:List Nd)(p:List Int)(a:List (List Int))(q:List Int):cC A p (a++[q])=if dE (fV A q) p<0 then cC A p a++[fV A q] else cC A p a:=by
 rw[lC];by_cases h:dE (fV A q) p<0
 ·rw[Rx h];simp[cC,h]
 ·rw[Rp h];simp[cC,h]
end Go.Ax
