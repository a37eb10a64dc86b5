/- A part of the proof. -/
set_option linter.unusedSectionVars false
set_option linter.unusedVariables false
set_option linter.unusedSimpArgs false
set_option maxRecDepth 1000000
set_option maxHeartbeats 16000000

namespace Go.Ax
theorem B'{p:Prop}(h:p:=by simp;omega):p:=h
theorem C'{p:Prop}(h:p:=by exact ⟨rfl,rfl,rfl⟩):p:=h
theorem G'{p:Prop}(h:p:=by exact .cons nn .nil):p:=h
theorem H'{p:Prop}(h:p:=by decide):p:=h
theorem I'{p:Prop}(h:p:=by exact .cons (fO _ _) .nil):p:=h
theorem J'{p:Prop}(h:p:=by simp only;omega):p:=h
theorem M'{p:Prop}(h:p:=by exact .cons (eD _ _) .nil):p:=h
theorem P'{p:Prop}(h:p:=by exact ⟨1,_,rfl,rfl,.cons (.agg (.cons (.sl 2 2 0 _ rfl) .nil)) .nil⟩):p:=h
theorem RF{p:Prop}(h:p:=by exact ⟨_,rfl,.w64 om oq⟩):p:=h
theorem T'{p:Prop}(h:p:=by exact ⟨by rw[hres];simp,rfl,rfl⟩):p:=h
theorem U'{p:Prop}(h:p:=by exact ⟨by simp only;omega,by simp only;omega⟩):p:=h
theorem V'{p:Prop}(h:p:=by exact ⟨_,rfl,.slE rfl rfl⟩):p:=h
theorem X'{p:Prop}(h:p:=by exact ⟨_,rfl,(.fn _ _ _ _ _ rfl rfl sq (iS.cons (.ptr 0 0 0 0 rfl) (.cons (.ptr 1 1 0 0 rfl) (.cons (.ptr 2 2 0 0 rfl) (.cons (.ptr 3 3 0 0 rfl) .nil)))).2)⟩):p:=h
theorem Y'{p:Prop}(h:p:=by rw[bF oq];omega):p:=h
theorem Z'{p:Prop}(h:p:=by exact ⟨_,rfl,.w64 sq ⟨by simp;omega,by simp;omega⟩⟩):p:=h
theorem ai{p:Prop}(h:p:=by exact .cons (bP _) .nil):p:=h
theorem aj{p:Prop}(h:p:=by exact bV rfl (bV rfl (bV rfl (bV (Y8 om) (bV (Y8 om) (bV (pP rfl om om) (Y8 om))))))):p:=h
theorem ap{p:Prop}(h:p:=by exact ⟨aF 0 dQ,aF 1 dQ,aF 2 dQ,⟨3,_,rfl,rfl,EP rfl rfl rfl⟩,⟨4,_,rfl,rfl,tR rfl rfl⟩,trivial⟩):p:=h
theorem au{p:Prop}(h:p:=by exact .cons (zG _) (.cons (tD _) .nil)):p:=h
theorem aw{p:Prop}(h:p:=by exact .agg' (.cons nA .nil)):p:=h
theorem ax{p:Prop}(h:p:=by exact .s .nil):p:=h
theorem ay{p:Prop}(h:p:=by exact ⟨by have:=hv.1;simpa using this,λj c x h1 h2=>hv.2 (j+1) c x (su h1) (su h2)⟩):p:=h
theorem ba{p:Prop}(h:p:=by exact .cons (tU _) .nil):p:=h
theorem bd{p:Prop}(h:p:=by exact ⟨_,rfl,.sl 0 0 0 _ rfl⟩):p:=h
theorem bf{p:Prop}(h:p:=by exact .s (.s (.s (.cons (.nil 4) .nil)))):p:=h
theorem bh{p:Prop}(h:p:=by exact aH _ rfl ⟨⟨0,_,rfl,rfl,.eq (jC _) (by rw[hss,hall2];rfl)⟩,trivial⟩ ⟨aP (iP A),aP (.ip' aw),V',aG,aG,aG,aP (.il' (aW _)),aG,RF,trivial⟩):p:=h
theorem bj{p:Prop}(h:p:=by exact .ptr 0 0 0 0 rfl):p:=h
theorem bk{p:Prop}(h:p:=by simp at h;omega):p:=h
theorem br{p:Prop}(h:p:=by exact .s (.s (.s (.cons (.nil 4) (.s (.cons (.nil 3) ax)))))):p:=h
theorem bt{p:Prop}(h:p:=by exact ⟨3,_,rfl,rfl,cX rfl rfl⟩):p:=h
theorem bu{p:Prop}(h:p:=by exact .cons (fO _ _) I'):p:=h
theorem bw{p:Prop}(h:p:=by exact .cons (eD _ _) M'):p:=h
theorem cc{p:Prop}(h:p:=by exact .same _ nn):p:=h
theorem cd{p:Prop}(h:p:=by rw[aN];first|omega|(simp only;omega)):p:=h
theorem cf{p:Prop}(h:p:=by rw[<-Int.natCast_add];exact iT om):p:=h
theorem cg{p:Prop}(h:p:=by exact .cons (tD _) (.cons (tD _) .nil)):p:=h
theorem ci{p:Prop}(h:p:=by exact ⟨aF 0 (kR _ _),⟨1,_,rfl,rfl,q9 rfl rfl⟩,aF 2 (aO _),trivial⟩):p:=h
theorem ck{p:Prop}(h:p:=by rw[Y1,bU,Yz hlt];rfl):p:=h
theorem cm{p:Prop}(h:p:=by exact ⟨_,rfl⟩):p:=h
theorem cn{p:Prop}(h:p:=by rw[hF]):p:=h
theorem co{p:Prop}(h:p:=by exact .ptr 1 1 0 0 rfl):p:=h
theorem cp{p:Prop}(h:p:=by exact aZ hs hp):p:=h
theorem cq{p:Prop}(h:p:=by exact ⟨0,_,rfl,rfl,cX rfl rfl⟩):p:=h
theorem ct{p:Prop}(h:p:=by exact .cons (bZ _) .nil):p:=h
theorem cu{p:Prop}(h:p:=by exact b8 rfl rfl (by rw[aN]) B'):p:=h
theorem cw{p:Prop}(h:p:=by exact b8 rfl rfl (by simp[aB]) (by simp[aB] at *;omega)):p:=h
theorem cx{p:Prop}(h:p:=by rw[ZQ];omega):p:=h
theorem cy{p:Prop}(h:p:=by cases b<;>simp_all[mO]):p:=h
theorem cz{p:Prop}(h:p:=by intro e;rw[hnum] at e;simp at e;omega):p:=h
theorem da{p:Prop}(h:p:=by exact ⟨aG,aM,aM,aG,aG,aG,aM,trivial⟩):p:=h
theorem dc{p:Prop}(h:p:=by exact ⟨aF 0 dQ,trivial⟩):p:=h
theorem dh{p:Prop}(h:p:=by exact aH _ rfl (nT _ _ _ _) ⟨aM,aG,aP (.ip' hxn),⟨_,rfl,.int (by simp only;split<;>omega)⟩,aP (.il' (aW _)),aG,⟨_,rfl,.wp⟩,trivial⟩):p:=h
theorem dm{p:Prop}(h:p:=by exact .cons (.sl 0 0 0 _ rfl) .nil):p:=h
theorem dp{p:Prop}(h:p:=by exact aH _ rfl ⟨⟨10,_,rfl,rfl,.eq (aX _) (by rw[gW];rfl)⟩,trivial⟩ ⟨aP (.il' (aX _)),aP (.il' (aX _)),⟨_,rfl,.slE rfl sq⟩,trivial⟩):p:=h
theorem dq{p:Prop}(h:p:=by exact ⟨aF 0 dQ,⟨1,_,rfl,rfl,JA rfl⟩,⟨2,_,rfl,rfl,tR rfl rfl⟩,trivial⟩):p:=h
theorem dt{p:Prop}(h:p:=by exact ⟨aF 0 (aO _),trivial⟩):p:=h
theorem dv{p:Prop}(h:p:=by rw[ZM];omega):p:=h
theorem dw{p:Prop}(h:p:=by exact ⟨aF 0 (bW bs),aF 1 ai,aF 2 dQ,⟨3,_,rfl,rfl,.cons (.agg (.cons (.nslk 4 4 _ rfl rfl) ax)) .nil⟩,⟨4,_,rfl,rfl,.nil⟩,trivial⟩):p:=h
theorem dx{p:Prop}(h:p:=by exact .cons (.same _ (vG p)) (.cons (.same _ (rL A)) .nil)):p:=h
theorem dy{p:Prop}(h:p:=by exact kL rfl rfl rfl rfl rfl rfl rfl rfl rfl rfl (by rw[h0];exact(oD _ _ _).symm) rfl rfl rfl rfl rfl trivial):p:=h
theorem dz{p:Prop}(h:p:=by exact ⟨_,rfl,.int rfl⟩):p:=h
theorem ee{p:Prop}(h:p:=by exact .cons (zT _ _ _ _) .nil):p:=h
theorem ef{p:Prop}(h:p:=by rfl):p:=h
theorem ej{p:Prop}(h:p:=by exact ⟨_,rfl,.w64 rfl U'⟩):p:=h
theorem ga{p:Prop}(h:p:=by exact ⟨aF 0 (bW bs),trivial⟩):p:=h
theorem gc{p:Prop}(h:p:=by exact .cons nn (.cons nn (.cons nn G'))):p:=h
theorem gd{p:Prop}(h:p:=by exact ⟨2,_,rfl,rfl,lF⟩):p:=h
theorem gf{p:Prop}(h:p:=by exact .cons (tB _) ba):p:=h
theorem gg{p:Prop}(h:p:=by exact .cons (.il' (aX _)) .nil):p:=h
theorem gh{p:Prop}(h:p:=by rw[<-h2];exact k4):p:=h
theorem gi{p:Prop}(h:p:=by assumption):p:=h
theorem gj{p:Prop}(h:p:=by exact ⟨rfl,rfl⟩):p:=h
theorem gm{p:Prop}(h:p:=by exact .s (.s (.s (.s (.cons (.nil 1) (.cons (.nil 1) (.cons (.nil 4) (.cons (.nil 1) bf)))))))):p:=h
theorem gn{p:Prop}(h:p:=by exact .s (.s (.cons bj (.cons co (.cons (.ptr 2 2 0 0 rfl) (.cons (.ptr 3 3 0 0 rfl) .nil)))))):p:=h
theorem gp{p:Prop}(h:p:=by exact ⟨_,rfl,.int (by rw[aN])⟩):p:=h
theorem gq{p:Prop}(h:p:=by exact ⟨aF 1 (kR _ _),aF 2 (kR _ _),aF 3 (kR _ _),⟨4,_,rfl,rfl,cX rfl rfl⟩,aF 0 (aO _),trivial⟩):p:=h
theorem gr{p:Prop}(h:p:=by rw[aB];omega):p:=h
theorem gv{p:Prop}(h:p:=by exact iN rfl rfl rfl rfl rfl rfl rfl rfl trivial):p:=h
theorem gw{p:Prop}(h:p:=by exact vF rfl rfl rfl om rfl):p:=h
theorem gy{p:Prop}(h:p:=by exact .cons (HW _ _ _ _) G'):p:=h
theorem g'{p:Prop}(h:p:=by exact .s (.s (.s (.cons (.same _ (.il' (aX _))) (.s (.s (.cons (.slE rfl rfl) .nil))))))):p:=h
theorem ia{p:Prop}(h:p:=by exact ⟨aF 0 dQ,aF 1 ai,trivial⟩):p:=h
theorem ib{p:Prop}(h:p:=by rw[e];simp):p:=h
theorem ic{p:Prop}(h:p:=by exact .cons (.bool _) .nil):p:=h
theorem ig{p:Prop}(h:p:=by exact ⟨_,rfl,(.fn _ _ _ _ _ rfl rfl sq (iS.cons co .nil).2)⟩):p:=h
theorem ii{p:Prop}(h:p:=by exact aH _ rfl ⟨aF 0 dQ,P',aF 2 (bB _),aF 3 dQ,trivial⟩ da):p:=h
theorem ij{p:Prop}(h:p:=by exact bR hid):p:=h
theorem ik{p:Prop}(h:p:=by exact .cons (.nil 4) ax):p:=h
theorem su{p q:Prop}(x:q)(e:q->p:=by(intro x;simpa using x)):p:=e x
theorem sq{p:Prop}(h:p:=by simp):p:=h
theorem oq{a b:Prop}(h:a:=by omega)(k:b:=by omega):a/\b:=⟨h,k⟩
inductive bH where
 | mk (kind n:Int) (s:List UInt8) (kids:List bH)
def rK(x y:Int):Int:=if x<y then -1 else if y<x then 1 else 0
def kK:List UInt8->List UInt8->Int
 | [],[]=>0
 | [],_::_=>-1
 | _::_,[]=>1
 | a::as,b::bs=>if a<b then -1 else if b<a then 1 else kK as bs
def andThen(c d:Int):Int:=if c=0 then d else c
mutual
def c8:bH->bH->Int
 | .mk k n s ks,.mk k' n' s' ks'=>andThen (rK k k') (andThen (rK n n') (andThen (kK s s') (g7 ks ks')))
def g7:List bH->List bH->Int
 | [],[]=>0
 | [],_::_=>-1
 | _::_,[]=>1
 | a::as,b::bs=>andThen (c8 a b) (g7 as bs)
end
structure Rh{G:Type}(f:G->G->Int)(a:G):Prop where
 refl:f a a=0
 anti:∀b,f b a = - f a b
 trans:∀b c,f a b<=0->f b c<=0->f a c<=0
 strict:∀b c,f a b<=0->f b c<=0->f a c=0->f a b=0/\f b c=0
theorem lK(a:Int):Rh rK a:=by
 constructor
 .simp[rK]
 .intro b;unfold rK;split<;>split<;>first|rfl|omega|(split<;>first|rfl|omega)
 .intro b c;unfold rK;repeat' split
  all_goals omega
 .intro b c;unfold rK;repeat' split
  all_goals omega
theorem rN:∀a:List UInt8,Rh kK a
 | []=>by
  constructor
  .rfl
  .intro b;cases b<;>rfl
  .intro b c;cases b<;>cases c<;>simp[kK]
  .intro b c;cases b<;>cases c<;>simp[kK]
 | a::as=>by
  have ih:=rN as;constructor
  .simp[kK,UInt8.lt_irrefl,ih.refl]
  .intro b;cases b with
   | nil=>rfl
   | cons b bs=>
    have:=ih.anti bs;simp only[kK];simp only[UInt8.lt_iff_toNat_lt] at *;repeat' split
    all_goals omega
  .intro b c;cases b with
   | nil=>cases c<;>simp[kK]
   | cons b bs=>
    cases c with
    | nil=>simp[kK]
    | cons c cs=>
     have:=ih.trans bs cs;simp only[kK];simp only[UInt8.lt_iff_toNat_lt] at *;repeat' split
     all_goals omega
  .intro b c;cases b with
   | nil=>cases c<;>simp[kK]
   | cons b bs=>
    cases c with
    | nil=>simp[kK]
    | cons c cs=>
     have:=ih.strict bs cs;simp only[kK];simp only[UInt8.lt_iff_toNat_lt] at *;repeat' split
     all_goals omega
theorem oT{c d c' d':Int}(h:c' = - c)(h':d' = - d):andThen c' d' = - andThen c d:=by
 unfold andThen;repeat' split
 all_goals omega
theorem o9{x y z x' y' z':Int}(h:x<=0->y<=0->z<=0)(hs:x<=0->y<=0->z=0->x=0/\y=0)(h':x'<=0->y'<=0->z'<=0) :
  andThen x x'<=0->andThen y y'<=0->andThen z z'<=0:=by
 unfold andThen;intro h1 h2;repeat' split at h1
 all_goals repeat' split at h2
 all_goals repeat' split
 all_goals omega
theorem sY{x y z x' y' z':Int}(h:x<=0->y<=0->z<=0)(hs:x<=0->y<=0->z=0->x=0/\y=0)(h':x'<=0->y'<=0->z'<=0)(hs':x'<=0->y'<=0->z'=0->x'=0/\y'=0) :
  andThen x x'<=0->andThen y y'<=0->andThen z z'=0->andThen x x'=0/\andThen y y'=0:=by
 unfold andThen;intro h1 h2 h3;repeat' split at h1
 all_goals repeat' split at h2
 all_goals repeat' split at h3
 all_goals simp_all
 all_goals omega
mutual
theorem nC:∀a:bH,Rh c8 a
 | .mk k n s ks=>by
  have i1:=lK k;have i2:=lK n;have i3:=rN s;have i4:=Bg ks;constructor
  .simp[c8,i1.refl,i2.refl,i3.refl,i4.refl,andThen]
  .rintro⟨k',n',s',ks'⟩;simp only[c8];exact oT (i1.anti _) (oT (i2.anti _) (oT (i3.anti _) (i4.anti _)))
  .rintro⟨k1,n1,s1,ks1⟩ ⟨k2,n2,s2,ks2⟩;simp only[c8];exact o9 (i1.trans _ _) (i1.strict _ _) (o9 (i2.trans _ _) (i2.strict _ _) (o9 (i3.trans _ _) (i3.strict _ _) (i4.trans _ _)))
  .rintro⟨k1,n1,s1,ks1⟩ ⟨k2,n2,s2,ks2⟩;simp only[c8];have a3:=o9 (i3.trans s1 s2) (i3.strict s1 s2) (i4.trans ks1 ks2);have b3:=sY (i3.trans s1 s2) (i3.strict s1 s2) (i4.trans ks1 ks2) (i4.strict ks1 ks2);have a2:=o9 (i2.trans n1 n2) (i2.strict n1 n2) a3;have b2:=sY (i2.trans n1 n2) (i2.strict n1 n2) a3 b3;exact sY (i1.trans k1 k2) (i1.strict k1 k2) a2 b2
theorem Bg:∀a:List bH,Rh g7 a
 | []=>by
  constructor
  .simp[g7]
  .intro b;cases b<;>simp[g7]
  .intro b c;cases b<;>cases c<;>simp[g7]
  .intro b c;cases b<;>cases c<;>simp[g7]
 | a::as=>by
  have i1:=nC a;have i2:=Bg as;constructor
  .simp[g7,i1.refl,i2.refl,andThen]
  .intro b;cases b with
   | nil=>simp[g7]
   | cons b bs=>simp only[g7];exact oT (i1.anti _) (i2.anti _)
  .intro b c;cases b with
   | nil=>cases c<;>simp[g7]
   | cons b bs=>
    cases c with
    | nil=>simp[g7]
    | cons c cs=>simp only[g7];exact o9 (i1.trans _ _) (i1.strict _ _) (i2.trans _ _)
  .intro b c;cases b with
   | nil=>cases c<;>simp[g7]
   | cons b bs=>
    cases c with
    | nil=>simp[g7]
    | cons c cs=>simp only[g7];exact sY (i1.trans _ _) (i1.strict _ _) (i2.trans _ _) (i2.strict _ _)
end
end Go.Ax
