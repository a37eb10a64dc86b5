/- A part of the proof. -/

set_option linter.unusedVariables false
set_option linter.unusedSimpArgs false
namespace Go.Ax
inductive aT where
 | mk (kind n:Int) (s:List UInt8) (kids:List aT)
def rH(x y:Int):Int:=if x<y then -1 else if y<x then 1 else 0
def jF:List UInt8->List UInt8->Int
 | [],[]=>0
 | [],_::_=>-1
 | _::_,[]=>1
 | a::as,b::bs=>if a<b then -1 else if b<a then 1 else jF as bs
def andThen(c d:Int):Int:=if c=0 then d else c
mutual
def bR:aT->aT->Int
 | .mk k n s ks,.mk k' n' s' ks'=>andThen (rH k k') (andThen (rH n n') (andThen (jF s s') (fI ks ks')))
def fI:List aT->List aT->Int
 | [],[]=>0
 | [],_::_=>-1
 | _::_,[]=>1
 | a::as,b::bs=>andThen (bR a b) (fI as bs)
end
structure Nm{α:Type}(f:α->α->Int)(a:α):Prop where
 refl:f a a=0
 anti:∀b,f b a = - f a b
 trans:∀b c,f a b<=0->f b c<=0->f a c<=0
 strict:∀b c,f a b<=0->f b c<=0->f a c=0->f a b=0/\f b c=0
theorem j9(a:Int):Nm rH a:=by
 constructor
 ·simp[rH]
 ·intro b;unfold rH;split<;>split<;>first|rfl|omega|(split<;>first|rfl|omega)
 ·intro b c;unfold rH;repeat' split
  all_goals omega
 ·intro b c;unfold rH;repeat' split
  all_goals omega
theorem pE:∀a:List UInt8,Nm jF a
 | []=>by
  constructor
  ·rfl
  ·intro b;cases b<;>rfl
  ·intro b c;cases b<;>cases c<;>simp[jF]
  ·intro b c;cases b<;>cases c<;>simp[jF]
 | a::as=>by
  have ih:=pE as;constructor
  ·simp[jF,UInt8.lt_irrefl,ih.refl]
  ·intro b;cases b with
   | nil=>rfl
   | cons b bs=>
    have:=ih.anti bs;simp only[jF];simp only[UInt8.lt_iff_toNat_lt] at *;repeat' split
    all_goals omega
  ·intro b c;cases b with
   | nil=>cases c<;>simp[jF]
   | cons b bs=>
    cases c with
    | nil=>simp[jF]
    | cons c cs=>
     have:=ih.trans bs cs;simp only[jF];simp only[UInt8.lt_iff_toNat_lt] at *;repeat' split
     all_goals omega
  ·intro b c;cases b with
   | nil=>cases c<;>simp[jF]
   | cons b bs=>
    cases c with
    | nil=>simp[jF]
    | cons c cs=>
     have:=ih.strict bs cs;simp only[jF];simp only[UInt8.lt_iff_toNat_lt] at *;repeat' split
     all_goals omega
theorem mX{c d c' d':Int}(h:c' = - c)(h':d' = - d):andThen c' d' = - andThen c d:=by
 unfold andThen;repeat' split
 all_goals omega
theorem m9{x y z x' y' z':Int}(h:x<=0->y<=0->z<=0)(hs:x<=0->y<=0->z=0->x=0/\y=0)(h':x'<=0->y'<=0->z'<=0) :
  andThen x x'<=0->andThen y y'<=0->andThen z z'<=0:=by
 unfold andThen;intro h1 h2;repeat' split at h1
 all_goals repeat' split at h2
 all_goals repeat' split
 all_goals omega
theorem qW{x y z x' y' z':Int}(h:x<=0->y<=0->z<=0)(hs:x<=0->y<=0->z=0->x=0/\y=0)(h':x'<=0->y'<=0->z'<=0)(hs':x'<=0->y'<=0->z'=0->x'=0/\y'=0) :
  andThen x x'<=0->andThen y y'<=0->andThen z z'=0->andThen x x'=0/\andThen y y'=0:=by
 unfold andThen;intro h1 h2 h3;repeat' split at h1
 all_goals repeat' split at h2
 all_goals repeat' split at h3
 all_goals simp_all
 all_goals omega
mutual
theorem nI:∀a:aT,Nm bR a
 | .mk k n s ks=>by
  have i1:=j9 k;have i2:=j9 n;have i3:=pE s;have i4:=y6 ks;constructor
  ·simp[bR,i1.refl,i2.refl,i3.refl,i4.refl,andThen]
  ·rintro⟨k',n',s',ks'⟩;simp only[bR];exact mX (i1.anti _) (mX (i2.anti _) (mX (i3.anti _) (i4.anti _)))
  ·rintro⟨k1,n1,s1,ks1⟩ ⟨k2,n2,s2,ks2⟩;simp only[bR];exact m9 (i1.trans _ _) (i1.strict _ _) (m9 (i2.trans _ _) (i2.strict _ _) (m9 (i3.trans _ _) (i3.strict _ _) (i4.trans _ _)))
  ·rintro⟨k1,n1,s1,ks1⟩ ⟨k2,n2,s2,ks2⟩;simp only[bR];have a3:=m9 (i3.trans s1 s2) (i3.strict s1 s2) (i4.trans ks1 ks2);have b3:=qW (i3.trans s1 s2) (i3.strict s1 s2) (i4.trans ks1 ks2) (i4.strict ks1 ks2);have a2:=m9 (i2.trans n1 n2) (i2.strict n1 n2) a3;have b2:=qW (i2.trans n1 n2) (i2.strict n1 n2) a3 b3;exact qW (i1.trans k1 k2) (i1.strict k1 k2) a2 b2
theorem y6:∀a:List aT,Nm fI a
 | []=>by
  constructor
  ·simp[fI]
  ·intro b;cases b<;>simp[fI]
  ·intro b c;cases b<;>cases c<;>simp[fI]
  ·intro b c;cases b<;>cases c<;>simp[fI]
 | a::as=>by
  have i1:=nI a;have i2:=y6 as;constructor
  ·simp[fI,i1.refl,i2.refl,andThen]
  ·intro b;cases b with
   | nil=>simp[fI]
   | cons b bs=>simp only[fI];exact mX (i1.anti _) (i2.anti _)
  ·intro b c;cases b with
   | nil=>cases c<;>simp[fI]
   | cons b bs=>
    cases c with
    | nil=>simp[fI]
    | cons c cs=>simp only[fI];exact m9 (i1.trans _ _) (i1.strict _ _) (i2.trans _ _)
  ·intro b c;cases b with
   | nil=>cases c<;>simp[fI]
   | cons b bs=>
    cases c with
    | nil=>simp[fI]
    | cons c cs=>simp only[fI];exact qW (i1.trans _ _) (i1.strict _ _) (i2.trans _ _) (i2.strict _ _)
end
end Go.Ax
