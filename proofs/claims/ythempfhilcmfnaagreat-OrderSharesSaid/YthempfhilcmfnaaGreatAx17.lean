/- A part of the proof. -/
import Derived.Test.YthempfhilcmfnaaGreatAx16
set_option linter.unusedVariables false
set_option linter.unusedSimpArgs false
namespace Go.Proofs.YthempfhilcmfnaaGreat
open Go Go.Ax Go.Proofs Tryz
set_option maxRecDepth 100000
set_option maxHeartbeats 16000000
def jW(q:List Int)(rid:Nat)(rest:aS):aS:=(0,.row 22 1 [.sl rid 0 q.length])::(rid,.row 3 1 (aI q))::rest
def Pc(A:List Nd)(raw:List Int):AV:=.fn (.func 90) [] [.ptr 0 0 0,.ip (.il 1 (aI raw)),.ip (wk A)]
theorem dG(raw:List Int):NN (.ip (.il 1 (aI raw))):=.ip' (.il' (aG raw))
theorem qH(A:List Nd):NN (.ip (wk A)):=.ip' (eM A)
theorem A3{mem:aS}{σ:List (Nat × Nat)}{A:List Nd}{raw:List Int}(h:lk σ 0=some 0):Cv mem σ (Pc A raw) (Pc A raw):=
 .fn _ _ _ _ _ rfl rfl (by simp) (iL.cons (.ptr 0 0 0 0 h) (.cons (.same _ (dG raw)) (.cons (.same _ (qH A)) .nil))).2
theorem dZ{mem:aS}{σ:List (Nat × Nat)}{q:List Int}{xs:List AV}{len rid rid':Nat}{rest:aS}(s0:lk σ 0=some 0)(sr:lk σ rid=some rid')(m0:lk mem 0=some (.row 22 1 [.sl rid 0 len]))(hl:len=q.length)(mr:lk mem rid=some (.row 3 1 xs))(hx:xs=aI q)
  (hr:cH mem σ rest):cH mem σ (jW q rid' rest):=
 ⟨⟨0,_,s0,m0,.cons (.one rfl rfl (.slE sr hl)) .nil⟩,⟨rid,_,sr,mr,.eq (aG _) hx⟩,hr⟩
theorem P7{A:List Nd}(h:VT A)(raw q:List Int){i:Nat}(hi:i<A.length)(hk:(aN A i).kind=1∨(aN A i).kind=2)(hq:q.length<=100000)(hr:raw.length<=17592186043904) :
  aM prog [] 90 [.int .i64 i,.ptr 0 0 0,.ip (.il 1 (aI raw)),.ip (wk A)] (jW q 1 []) 2 fun r m k=>r = .int .i64 (c7 raw (aN A i) q.length)/\m=jW (q++[c7 raw (aN A i) q.length]) 2 []/\k=3:=by
 have hx:=dS hi;have hg:=h.node hx;have hop:=h.opt hx hk;have ho:=F3 (aN A i) (fun _=>hg.node.num);have hkl:=h.tin.klen _ (R3 hx);have en:=mL hi;have hob:fM (aN A i)<=1099511627776:=by
  unfold fM;split
  ·have:=cA hg.node.num;omega
  ·omega
 have nx:=aW (aN A i);have hcm:=fun hlt=>HU (raw:=raw) (x:=aN A i) (q:=q.length) hop hlt
 have hcn:=fun hlt=>FD (raw:=raw) (x:=aN A i) (q:=q.length) hlt
 have lr:=aE raw;generalize aN A i=x at *;have lq:=aE q;have d1:decide ((q.length:Int)<((aI raw).length:Int))=decide (q.length<raw.length):=by rw[lr];exact SB.2 (by omega)
 generalize c7 raw x q.length=c at *;generalize fM x=o at *;refine aL bC func90 rfl ?_;((conv=>whnf);repeat(refine Xg ?_;conv=>whnf));rw[d1];by_cases hlt:q.length<raw.length
 ·have er:=dK hlt;have hcm:=hcm hlt;have eg:raw.getD q.length 0=raw[q.length]:=by rw[Rn,Rm hlt];rfl
  rw[eg] at hcm;generalize raw[q.length]=z at *;have hw:IntKind.i64.wrap (o-1)=o-1:=bY ⟨by omega,by omega⟩;rw[Rs hlt];((conv=>whnf);repeat(refine Xg ?_;conv=>whnf));repeat((first|refine aC er ?_|refine aC en ?_|refine aB.2 ?_|refine aD ?_);(conv=>whnf);repeat(refine Xg ?_;conv=>whnf))
  refine ho.go ?_ (.cons (.ip' nx) .nil) nn;((conv=>whnf);repeat(refine Xg ?_;conv=>whnf));repeat((first|refine aC er ?_|refine aC en ?_|refine aB.2 ?_|refine aD ?_);(conv=>whnf);repeat(refine Xg ?_;conv=>whnf))
  have hif:(if IntKind.i64.wrap (o-1)<if 0>z then 0 else z then IntKind.i64.wrap (o-1) else if 0>z then 0 else z)=c:=by
   rw[hw,←hcm];split<;>split<;>omega
  rw[hif];refine aK (bP rfl rfl (by rw[lq]) (by simp;omega)) ?_;((conv=>whnf);repeat(refine Xg ?_;conv=>whnf));exact bK (n':=3) (m':=jW (q++[c]) 2 []) [(0,0),(22,2)] rfl (dZ (rid:=22) rfl rfl rfl (by simp) rfl (by simp[aI]) trivial) (.same _ nn) ⟨rfl,rfl,rfl⟩
 ·rw[R4 hlt,hcn hlt];((conv=>whnf);repeat(refine Xg ?_;conv=>whnf));refine aK (bP rfl rfl (by rw[lq]) (by simp;omega)) ?_;((conv=>whnf);repeat(refine Xg ?_;conv=>whnf));exact bK (n':=3) (m':=jW (q++[0]) 2 []) [(0,0),(3,2)] rfl (dZ (rid:=3) rfl rfl rfl (by simp) rfl (by simp[aI]) trivial) (.same _ nn) ⟨rfl,rfl,rfl⟩
def L2(A:List Nd)(raw q:List Int)(f i:Nat)(want:Bool):AV->aS->Nat->Prop:=fun r m k=>∃v,r=bT v/\(want=true->v=(dN A raw f i q.length).val)/\m=jW (q++(dN A raw f i q.length).cs) 2 []/\k=3
def M5(A:List Nd)(raw:List Int)(f:Nat):Prop:=∀(i:Nat) (q:List Int) (want:Bool),i<f->i<A.length->q.length+(dN A raw f i q.length).cs.length<=4096 ->
 aM prog [] 89 [wk A,.int .i64 i,.bool want,Pc A raw] (jW q 1 []) 2 (L2 A raw q f i want)
theorem J9{A:List Nd}(h:VT A)(raw q:List Int){i:Nat}(hi:i<A.length)(hk:(aN A i).kind=1∨(aN A i).kind=2)(hq:q.length<=100000)(hr:raw.length<=17592186043904){mem:aS}{nx:Nat}{K:AV->aS->Nat->Prop}
  (rid:Nat) (hp:jE [0,rid] mem=jW q rid []) (hc0:(iK (jW q 1 []) && (jG [(0,0),(rid,1)] && oD 2 [(0,0),(rid,1)]))=true) (hl:lk [(0,0),(rid,1)] 0=some 0) (hl2:lk [(0,0),(rid,1)] rid=some 1) (hm:lk (jW q rid []) rid=some (.row 3 1 (aI q)))
  (hc:∀q':List Int,(iK (jW q' nx []) && (jG [(0,0),(2,nx)] && (Nat.ble nx (nx+1) && (jX [0,rid] nx (jW q' nx []) && oO [(0,0),(rid,1)] 2 nx (nx+1) [(0,0),(2,nx)]))))=true)
  (hk2:K (.int .i64 (c7 raw (aN A i) q.length)) (jW (q++[c7 raw (aN A i) q.length]) nx []++eT [0,rid] mem) (nx+1)) :
  aM prog [] 90 [.int .i64 i,.ptr 0 0 0,.ip (.il 1 (aI raw)),.ip (wk A)] mem nx K:=by
 refine aM.useN bC [(0,0),(rid,1)] (P7 h raw q hi hk hq hr) hp (.s (.cons (.ptr 0 0 0 0 hl) (.cons (.same _ (dG raw)) (.cons (.same _ (qH A)) .nil)))) (dZ (rid:=rid) hl hl2 rfl rfl hm rfl trivial) hc0 ?_;rintro r m k ⟨rfl,rfl,rfl⟩;exact⟨[(0,0),(2,nx)],_,jW (q++[c7 raw (aN A i) q.length]) nx [],nx+1,.same _ nn,dZ (rid:=2) rfl rfl rfl rfl rfl rfl trivial,hc _,hk2⟩
theorem xV{A:List Nd}{raw:List Int}{f:Nat}(ih:M5 A raw f){q:List Int}{i:Nat}{want:Bool}(h1:i<f)(h2:i<A.length)(h3:q.length+(dN A raw f i q.length).cs.length<=4096){mem:aS}{nx:Nat}{K:AV->aS->Nat->Prop}
  (rid:Nat) (hp:jE [0,rid] mem=jW q rid []) (hc0:(iK (jW q 1 []) && (jG [(0,0),(rid,1)] && oD 2 [(0,0),(rid,1)]))=true) (hl:lk [(0,0),(rid,1)] 0=some 0) (hl2:lk [(0,0),(rid,1)] rid=some 1) (hm:lk (jW q rid []) rid=some (.row 3 1 (aI q)))
  (hc:∀q':List Int,(iK (jW q' nx []) && (jG [(0,0),(2,nx)] && (Nat.ble nx (nx+1) && (jX [0,rid] nx (jW q' nx []) && oO [(0,0),(rid,1)] 2 nx (nx+1) [(0,0),(2,nx)]))))=true)
  (hk2:∀v:bB,(want=true->v=(dN A raw f i q.length).val)->K (bT v) (jW (q++(dN A raw f i q.length).cs) nx []++eT [0,rid] mem) (nx+1)) :
  aM prog [] 89 [wk A,.int .i64 i,.bool want,Pc A raw] mem nx K:=by
 refine aM.useN bC [(0,0),(rid,1)] (ih i q want h1 h2 h3) hp (.cons (.same _ (eM A)) (.s (.s (.cons (A3 hl) .nil)))) (dZ (rid:=rid) hl hl2 rfl rfl hm rfl trivial) hc0 ?_;rintro r m k ⟨v,rfl,hv,rfl,rfl⟩;exact⟨[(0,0),(2,nx)],_,jW (q++(dN A raw f i q.length).cs) nx [],nx+1,.same _ (bM v),dZ (rid:=2) rfl rfl rfl rfl rfl rfl trivial,hc _,hk2 v hv⟩
end Go.Proofs.YthempfhilcmfnaaGreat
namespace Go.Ax
open Go
theorem aM.lendJ{P:Program}{Γ:List (Nat × AV)}{F:FuncId}{asz args:List AV}{mem:aS}{nx:Nat}{Qs K:AV->aS->Nat->Prop}(hΓ:∀p∈Γ,NN p.2)(h:aM P Γ F asz [] 0 Qs)(hargs:iL mem [] args asz)
  (hk:∀r m n,Qs r m n->∃r',Cv m [] r r'/\Sc r'/\K r' mem nx):aM P Γ F args mem nx K:=by
 refine⟨fun X D ρ w vs hD hm hv=>?_⟩;obtain⟨s1,sv,so⟩:=hm.turn (σ:=[]) (ρ':=ρ) (D':=fun _=>False) (mem':=[]) hΓ (fun id id' h=>by simp[lk] at h) (fun p hp=>by simp at hp) (by simp) (fun i j k h=>by simp[lk] at h);have hvs:jA ρ (fun _=>False) (OX X ρ []) w asz vs:=
  ⟨by rw[←hargs.1];exact hv.1,fun j c' x hc' hx=>by
   obtain⟨c,hc⟩:=cX hargs.1 hc';exact sv c c' (hargs.2 j c c' hc hc') _ (hv.2 j c x hc hx)⟩
 refine(h.run _ _ _ w vs (fun i h=>h.elim) s1 hvs).mono ?_;rintro e w' ⟨r,v,m,n,ρs,rfl,hq,hn,r1,rv,ext⟩;obtain⟨r',hc,hsc,hK⟩:=hk r m n hq;obtain⟨_,uv,_⟩:=r1.turn (σ:=[]) (ρ':=ρs) (D':=fun _=>False) (mem':=[]) hΓ (fun id id' h=>by simp[lk] at h) (fun p hp=>by simp at hp) (by simp) (fun i j k h=>by simp[lk] at h);obtain⟨m2,e2⟩:=hm.still ext.size (fun b hb=>ext.keep b hb (fun⟨p,hp,_⟩=>by simp at hp)) ext.env;obtain⟨m3,v3,e3⟩:=m2.widen (D':=dn D nx nx) (fun i hi=>.inl hi);exact⟨r',v,mem,nx,ρ,rfl,hK,R2 _,m3,Sc.vr (uv r r' hc _ rv) hsc,(e2 D fun i hi=>hi).trans (e3 D fun i hi=>hi)⟩
theorem bO.pre{P:Program}{Γ:List (Nat × AV)}{F:FuncId}{args args':List AV}{mem mem':aS}{nx:Nat}{K:AV->aS->Nat->Prop}{Kp:Value->aS->Nat->Prop}(hΓ:∀p∈Γ,NN p.2)(σ:List (Nat × Nat))(hid:(Fd σ && iK mem')=true)
  (hM:cH mem σ mem') (hargs:iL mem σ args args') (h:bO P Γ F args' mem' nx K Kp):bO P Γ F args mem nx K Kp:=by
 simp only[Rr] at hid;have hid1:=rO hid.1;have hnod:=dH hid.2;refine⟨fun X D ρ w vs hD hm hv=>?_⟩;have hσ:∀id id',lk σ id=some id'->D id->D id'/\ρ id'=ρ id:=by
  intro id id' h hd;have:=hid1 _ (bI h);simp only at this;subst this;exact⟨hd,rfl⟩
 have hinj:Gi σ:=fun i j k h1 h2=>by
  have a:=hid1 _ (bI h1);have b:=hid1 _ (bI h2);simp only at a b;omega
 obtain⟨m1,v1,o1⟩:=hm.turn (D':=D) (ρ':=ρ) hΓ hσ hM.cvm hnod hinj;have hvs:jA ρ D (OX X ρ mem') w args' vs:=⟨by rw[←hargs.1];exact hv.1,fun j c' x hc' hx=>by
   obtain⟨c,hc⟩:=cX hargs.1 hc';exact v1 c c' (hargs.2 j c c' hc hc') _ (hv.2 j c x hc hx)⟩
 refine(h.run X D ρ w vs hD m1 hvs).mono ?_;rintro e w' ⟨m,n,ρ',h3,h4,h6,hr⟩;have e0:Ext D ρ mem w ρ D mem' w:=⟨fun i hi=>hi,fun _ _=>rfl,R2 _,fun _ _ _=>rfl,fun p hp hn=>.inl (o1 p hp hn),.refl _⟩
 exact⟨m,n,ρ',h3,h4,e0.trans h6,hr⟩
theorem bO.ph{P:Program}{Γ:List (Nat × AV)}{F:FuncId}{args:List AV}{mem:aS}{nx:Nat}{K:AV->aS->Nat->Prop}{Kp:Value->aS->Nat->Prop}(t:TypeId)(sz:Nat)(h:bO P Γ F args ((nx,.row t sz [])::mem) (nx+1) K Kp):bO P Γ F args mem nx K Kp:=by
 refine⟨fun X D ρ w vs hD hm hv=>?_⟩;obtain⟨m1,v1,e1⟩:=hm.phantom (n:=nx) (D':=dn D nx (nx+1)) (fun h'=>Tb _ (hD _ h')) (fun i hi=>.inl hi) (.inr ⟨R2 _,TH _⟩) t sz;refine(h.run X _ _ w vs (fun i hi=>?_) m1 ⟨hv.1,fun j c x hc hx=>v1 _ _ (hv.2 j c x hc hx)⟩).mono ?_
 ·rcases hi with hi|hi
  ·have:=hD i hi;omega
  ·exact hi.2
 ·rintro e w' ⟨m,n,ρ',hn,hm',ext,hr⟩;have ed:dn (dn D nx (nx+1)) (nx+1) n=dn D nx n:=by
   funext i
   apply propext;constructor
   ·rintro((hi|⟨h1,h2⟩)|⟨h1,h2⟩)
    ·exact .inl hi
    ·exact .inr ⟨h1,by omega⟩
    ·exact .inr ⟨by omega,h2⟩
   ·rintro(hi|⟨h1,h2⟩)
    ·exact .inl (.inl hi)
    ·rcases R9 i (nx+1) with h3|h3
     ·exact .inl (.inr ⟨h1,h3⟩)
     ·exact .inr ⟨h3,h2⟩
  rw[ed] at hm' ext;have e2:=e1 D fun i hi=>hi
  refine⟨m,n,ρ',by omega,hm',e2.trans ⟨fun i hi=>ext.le i (.inl hi),fun i hi=>ext.agree i (.inl hi),ext.size,ext.keep,ext.fresh,ext.env⟩, ?_⟩;rcases hr with⟨r,v,h1,h2,h3⟩|hr
  ·rw[ed] at h3;exact .inl ⟨r,v,h1,h2,h3⟩
  ·exact .inr hr
theorem zX{P:Program}{Γ:List (Nat × AV)}{H:Hk}{F:FuncId}{fn:Func}{c:Code}{args:List AV}{mem:aS}{nx:Nat}{Q:AV->aS->Nat->Prop}{Qp:Value->aS->Nat->Prop}(hΓ:∀p∈Γ,NN p.2)(hf:P.funcs[F]? = some fn)(hb:fn.body=some c)
  (h:vX fn.ntmps args mem nx fun s=>m7 P Γ nx c s (BQ P Γ H fn.results.toList (lE nx Q) (IJ nx Qp))) (hF:Nat.beq F YF=false:=by rfl):bO P Γ F args mem nx Q Qp:=
 (rJ hf hb (lO h) hF).turn hΓ
theorem a8.frz{P:Program}{Γ:List (Nat × AV)}{F:FuncId}{args asz:List AV}{r:AV}{mem:aS}{nx:Nat}{K:AV->aS->Nat->Prop}(h:a8 P Γ F asz r)(ids:List Nat)(hΓ:∀p∈Γ,NN p.2)(hargs:iL (jE ids mem) [] args asz)(hr:NN r)(hk:K r (eT ids mem) nx) :
  aM P Γ F args mem nx K:=by
 refine⟨fun X D ρ w vs hD hm hv=>?_⟩;refine(aM.use (K:=K) (nx:=nx) hΓ h [] (m1:=jE ids mem) (rest:=eT ids mem) ⟨fun p hp'=>(dO.1 hp').1,fun p hp'=>(cK.1 hp').1,fun p hp'=>?_,fun p h1 q h2=>?_, ?_⟩ ?_ hargs (fun p hp=>by cases hp) (by simp) (fun i j k h=>by simp[lk] at h) (fun id i hl=>by simp[lk] at hl) ?_).run X D ρ w vs hD hm hv
 ·cases hi:zO p.1 ids with
  | true=>left;exact dO.2 ⟨hp',hi⟩
  | false=>right;exact cK.2 ⟨hp',hi⟩
 ·have a:=(dO.1 h1).2;have b:=(cK.1 h2).2;intro e;rw[e,b] at a;cases a
 ·exact hm.nod.sublist ((kN mem).map _)
 ·exact hm.nod.sublist ((kI mem).map _)
 ·rintro r' m n ⟨rfl,rfl,rfl⟩ _;exact⟨[],r',[],nx,R2 _,.same r' hr,(fun p hp=>by cases hp),by simp,(fun i j k h=>by simp[lk] at h),(fun i id hl=>by simp[lk] at hl),(fun p hp=>by cases hp),hk⟩
end Go.Ax
