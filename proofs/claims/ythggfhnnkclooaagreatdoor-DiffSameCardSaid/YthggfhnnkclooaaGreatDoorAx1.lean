/- A part of the proof. -/
set_option linter.unusedSectionVars false
set_option linter.unusedVariables false
set_option linter.unusedSimpArgs false
set_option maxRecDepth 1000000
set_option maxHeartbeats 16000000

namespace Go.Ax
theorem su{p q:Prop}(x:q)(e:q->p:=by(intro x;simpa using x)):p:=e x
theorem sq{p:Prop}(h:p:=by simp):p:=h
theorem oq{a b:Prop}(h:a:=by omega)(k:b:=by omega):a/\b:=⟨h,k⟩
inductive bD where
 | mk (kind n:Int) (s:List UInt8) (kids:List bD)
def q7(x y:Int):Int:=if x<y then -1 else if y<x then 1 else 0
def kE:List UInt8->List UInt8->Int
 | [],[]=>0
 | [],_::_=>-1
 | _::_,[]=>1
 | a::as,b::bs=>if a<b then -1 else if b<a then 1 else kE as bs
def andThen(c d:Int):Int:=if c=0 then d else c
mutual
def cN:bD->bD->Int
 | .mk k n s ks,.mk k' n' s' ks'=>andThen (q7 k k') (andThen (q7 n n') (andThen (kE s s') (gJ ks ks')))
def gJ:List bD->List bD->Int
 | [],[]=>0
 | [],_::_=>-1
 | _::_,[]=>1
 | a::as,b::bs=>andThen (cN a b) (gJ as bs)
end
structure TE{G:Type}(f:G->G->Int)(a:G):Prop where
 refl:f a a=0
 anti:∀b,f b a = - f a b
 trans:∀b c,f a b<=0->f b c<=0->f a c<=0
 strict:∀b c,f a b<=0->f b c<=0->f a c=0->f a b=0/\f b c=0
theorem lN(a:Int):TE q7 a:=by
 constructor
 .simp[q7]
 .intro b;unfold q7;split<;>split<;>first|rfl|omega|(split<;>first|rfl|omega)
 .intro b c;unfold q7;repeat' split
  all_goals omega
 .intro b c;unfold q7;repeat' split
  all_goals omega
theorem rH:∀a:List UInt8,TE kE a
 | []=>by
  constructor
  .rfl
  .intro b;cases b<;>rfl
  .intro b c;cases b<;>cases c<;>simp[kE]
  .intro b c;cases b<;>cases c<;>simp[kE]
 | a::as=>by
  have ih:=rH as;constructor
  .simp[kE,UInt8.lt_irrefl,ih.refl]
  .intro b;cases b with
   | nil=>rfl
   | cons b bs=>
    have:=ih.anti bs;simp only[kE];simp only[UInt8.lt_iff_toNat_lt] at *;repeat' split
    all_goals omega
  .intro b c;cases b with
   | nil=>cases c<;>simp[kE]
   | cons b bs=>
    cases c with
    | nil=>simp[kE]
    | cons c cs=>
     have:=ih.trans bs cs;simp only[kE];simp only[UInt8.lt_iff_toNat_lt] at *;repeat' split
     all_goals omega
  .intro b c;cases b with
   | nil=>cases c<;>simp[kE]
   | cons b bs=>
    cases c with
    | nil=>simp[kE]
    | cons c cs=>
     have:=ih.strict bs cs;simp only[kE];simp only[UInt8.lt_iff_toNat_lt] at *;repeat' split
     all_goals omega
theorem oR{c d c' d':Int}(h:c' = - c)(h':d' = - d):andThen c' d' = - andThen c d:=by
 unfold andThen;repeat' split
 all_goals omega
theorem o7{x y z x' y' z':Int}(h:x<=0->y<=0->z<=0)(hs:x<=0->y<=0->z=0->x=0/\y=0)(h':x'<=0->y'<=0->z'<=0) :
  andThen x x'<=0->andThen y y'<=0->andThen z z'<=0:=by
 unfold andThen;intro h1 h2;repeat' split at h1
 all_goals repeat' split at h2
 all_goals repeat' split
 all_goals omega
theorem sE{x y z x' y' z':Int}(h:x<=0->y<=0->z<=0)(hs:x<=0->y<=0->z=0->x=0/\y=0)(h':x'<=0->y'<=0->z'<=0)(hs':x'<=0->y'<=0->z'=0->x'=0/\y'=0) :
  andThen x x'<=0->andThen y y'<=0->andThen z z'=0->andThen x x'=0/\andThen y y'=0:=by
 unfold andThen;intro h1 h2 h3;repeat' split at h1
 all_goals repeat' split at h2
 all_goals repeat' split at h3
 all_goals simp_all
 all_goals omega
mutual
theorem jY:∀a:bD,TE cN a
 | .mk k n s ks=>by
  have i1:=lN k;have i2:=lN n;have i3:=rH s;have i4:=BM ks;constructor
  .simp[cN,i1.refl,i2.refl,i3.refl,i4.refl,andThen]
  .rintro⟨k',n',s',ks'⟩;simp only[cN];exact oR (i1.anti _) (oR (i2.anti _) (oR (i3.anti _) (i4.anti _)))
  .rintro⟨k1,n1,s1,ks1⟩ ⟨k2,n2,s2,ks2⟩;simp only[cN];exact o7 (i1.trans _ _) (i1.strict _ _) (o7 (i2.trans _ _) (i2.strict _ _) (o7 (i3.trans _ _) (i3.strict _ _) (i4.trans _ _)))
  .rintro⟨k1,n1,s1,ks1⟩ ⟨k2,n2,s2,ks2⟩;simp only[cN];have a3:=o7 (i3.trans s1 s2) (i3.strict s1 s2) (i4.trans ks1 ks2);have b3:=sE (i3.trans s1 s2) (i3.strict s1 s2) (i4.trans ks1 ks2) (i4.strict ks1 ks2);have a2:=o7 (i2.trans n1 n2) (i2.strict n1 n2) a3;have b2:=sE (i2.trans n1 n2) (i2.strict n1 n2) a3 b3;exact sE (i1.trans k1 k2) (i1.strict k1 k2) a2 b2
theorem BM:∀a:List bD,TE gJ a
 | []=>by
  constructor
  .simp[gJ]
  .intro b;cases b<;>simp[gJ]
  .intro b c;cases b<;>cases c<;>simp[gJ]
  .intro b c;cases b<;>cases c<;>simp[gJ]
 | a::as=>by
  have i1:=jY a;have i2:=BM as;constructor
  .simp[gJ,i1.refl,i2.refl,andThen]
  .intro b;cases b with
   | nil=>simp[gJ]
   | cons b bs=>simp only[gJ];exact oR (i1.anti _) (i2.anti _)
  .intro b c;cases b with
   | nil=>cases c<;>simp[gJ]
   | cons b bs=>
    cases c with
    | nil=>simp[gJ]
    | cons c cs=>simp only[gJ];exact o7 (i1.trans _ _) (i1.strict _ _) (i2.trans _ _)
  .intro b c;cases b with
   | nil=>cases c<;>simp[gJ]
   | cons b bs=>
    cases c with
    | nil=>simp[gJ]
    | cons c cs=>simp only[gJ];exact sE (i1.trans _ _) (i1.strict _ _) (i2.trans _ _) (i2.strict _ _)
end
end Go.Ax
