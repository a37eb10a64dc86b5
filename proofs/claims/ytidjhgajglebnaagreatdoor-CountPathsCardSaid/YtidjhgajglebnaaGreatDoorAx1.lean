/- A part of the proof. -/

set_option linter.unusedVariables false
set_option linter.unusedSimpArgs false
namespace Go.Ax
inductive aR where
 | mk (kind n:Int) (s:List UInt8) (kids:List aR)
def uZ(x y:Int):Int:=if x<y then -1 else if y<x then 1 else 0
def kZ:List UInt8->List UInt8->Int
 | [],[]=>0
 | [],_::_=>-1
 | _::_,[]=>1
 | a::as,b::bs=>if a<b then -1 else if b<a then 1 else kZ as bs
def andThen(c d:Int):Int:=if c=0 then d else c
mutual
def cE:aR->aR->Int
 | .mk k n s ks,.mk k' n' s' ks'=>andThen (uZ k k') (andThen (uZ n n') (andThen (kZ s s') (gP ks ks')))
def gP:List aR->List aR->Int
 | [],[]=>0
 | [],_::_=>-1
 | _::_,[]=>1
 | a::as,b::bs=>andThen (cE a b) (gP as bs)
end
structure TW{α:Type}(f:α->α->Int)(a:α):Prop where
 refl:f a a=0
 anti:∀b,f b a = - f a b
 trans:∀b c,f a b<=0->f b c<=0->f a c<=0
 strict:∀b c,f a b<=0->f b c<=0->f a c=0->f a b=0/\f b c=0
theorem mL(a:Int):TW uZ a:=by
 constructor
 ·simp[uZ]
 ·intro b;unfold uZ;split<;>split<;>first|rfl|omega|(split<;>first|rfl|omega)
 ·intro b c;unfold uZ;repeat' split
  all_goals omega
 ·intro b c;unfold uZ;repeat' split
  all_goals omega
theorem sG:∀a:List UInt8,TW kZ a
 | []=>by
  constructor
  ·rfl
  ·intro b;cases b<;>rfl
  ·intro b c;cases b<;>cases c<;>simp[kZ]
  ·intro b c;cases b<;>cases c<;>simp[kZ]
 | a::as=>by
  have ih:=sG as;constructor
  ·simp[kZ,UInt8.lt_irrefl,ih.refl]
  ·intro b;cases b with
   | nil=>rfl
   | cons b bs=>
    have:=ih.anti bs;simp only[kZ];simp only[UInt8.lt_iff_toNat_lt] at *;repeat' split
    all_goals omega
  ·intro b c;cases b with
   | nil=>cases c<;>simp[kZ]
   | cons b bs=>
    cases c with
    | nil=>simp[kZ]
    | cons c cs=>
     have:=ih.trans bs cs;simp only[kZ];simp only[UInt8.lt_iff_toNat_lt] at *;repeat' split
     all_goals omega
  ·intro b c;cases b with
   | nil=>cases c<;>simp[kZ]
   | cons b bs=>
    cases c with
    | nil=>simp[kZ]
    | cons c cs=>
     have:=ih.strict bs cs;simp only[kZ];simp only[UInt8.lt_iff_toNat_lt] at *;repeat' split
     all_goals omega
theorem pN{c d c' d':Int}(h:c' = - c)(h':d' = - d):andThen c' d' = - andThen c d:=by
 unfold andThen;repeat' split
 all_goals omega
theorem p6{x y z x' y' z':Int}(h:x<=0->y<=0->z<=0)(hs:x<=0->y<=0->z=0->x=0/\y=0)(h':x'<=0->y'<=0->z'<=0) :
  andThen x x'<=0->andThen y y'<=0->andThen z z'<=0:=by
 unfold andThen;intro h1 h2;repeat' split at h1
 all_goals repeat' split at h2
 all_goals repeat' split
 all_goals omega
theorem sR{x y z x' y' z':Int}(h:x<=0->y<=0->z<=0)(hs:x<=0->y<=0->z=0->x=0/\y=0)(h':x'<=0->y'<=0->z'<=0)(hs':x'<=0->y'<=0->z'=0->x'=0/\y'=0) :
  andThen x x'<=0->andThen y y'<=0->andThen z z'=0->andThen x x'=0/\andThen y y'=0:=by
 unfold andThen;intro h1 h2 h3;repeat' split at h1
 all_goals repeat' split at h2
 all_goals repeat' split at h3
 all_goals simp_all
 all_goals omega
mutual
theorem pW:∀a:aR,TW cE a
 | .mk k n s ks=>by
  have i1:=mL k;have i2:=mL n;have i3:=sG s;have i4:=Ba ks;constructor
  ·simp[cE,i1.refl,i2.refl,i3.refl,i4.refl,andThen]
  ·rintro⟨k',n',s',ks'⟩;simp only[cE];exact pN (i1.anti _) (pN (i2.anti _) (pN (i3.anti _) (i4.anti _)))
  ·rintro⟨k1,n1,s1,ks1⟩ ⟨k2,n2,s2,ks2⟩;simp only[cE];exact p6 (i1.trans _ _) (i1.strict _ _) (p6 (i2.trans _ _) (i2.strict _ _) (p6 (i3.trans _ _) (i3.strict _ _) (i4.trans _ _)))
  ·rintro⟨k1,n1,s1,ks1⟩ ⟨k2,n2,s2,ks2⟩;simp only[cE];have a3:=p6 (i3.trans s1 s2) (i3.strict s1 s2) (i4.trans ks1 ks2);have b3:=sR (i3.trans s1 s2) (i3.strict s1 s2) (i4.trans ks1 ks2) (i4.strict ks1 ks2);have a2:=p6 (i2.trans n1 n2) (i2.strict n1 n2) a3;have b2:=sR (i2.trans n1 n2) (i2.strict n1 n2) a3 b3;exact sR (i1.trans k1 k2) (i1.strict k1 k2) a2 b2
theorem Ba:∀a:List aR,TW gP a
 | []=>by
  constructor
  ·simp[gP]
  ·intro b;cases b<;>simp[gP]
  ·intro b c;cases b<;>cases c<;>simp[gP]
  ·intro b c;cases b<;>cases c<;>simp[gP]
 | a::as=>by
  have i1:=pW a;have i2:=Ba as;constructor
  ·simp[gP,i1.refl,i2.refl,andThen]
  ·intro b;cases b with
   | nil=>simp[gP]
   | cons b bs=>simp only[gP];exact pN (i1.anti _) (i2.anti _)
  ·intro b c;cases b with
   | nil=>cases c<;>simp[gP]
   | cons b bs=>
    cases c with
    | nil=>simp[gP]
    | cons c cs=>simp only[gP];exact p6 (i1.trans _ _) (i1.strict _ _) (i2.trans _ _)
  ·intro b c;cases b with
   | nil=>cases c<;>simp[gP]
   | cons b bs=>
    cases c with
    | nil=>simp[gP]
    | cons c cs=>simp only[gP];exact sR (i1.trans _ _) (i1.strict _ _) (i2.trans _ _) (i2.strict _ _)
end
end Go.Ax
