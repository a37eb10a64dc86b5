/- A part of the proof. -/

set_option linter.unusedVariables false
set_option linter.unusedSimpArgs false
set_option linter.unusedSectionVars false
namespace Go.Ax
inductive a7 where
 | mk (kind n:Int) (s:List UInt8) (kids:List a7)
def oW(x y:Int):Int:=if x<y then -1 else if y<x then 1 else 0
def iL:List UInt8->List UInt8->Int
 | [],[]=>0
 | [],_::_=>-1
 | _::_,[]=>1
 | a::as,b::bs=>if a<b then -1 else if b<a then 1 else iL as bs
def andThen(c d:Int):Int:=if c=0 then d else c
mutual
def bW:a7->a7->Int
 | .mk k n s ks,.mk k' n' s' ks'=>andThen (oW k k') (andThen (oW n n') (andThen (iL s s') (fC ks ks')))
def fC:List a7->List a7->Int
 | [],[]=>0
 | [],_::_=>-1
 | _::_,[]=>1
 | a::as,b::bs=>andThen (bW a b) (fC as bs)
end
structure L4{α:Type}(f:α->α->Int)(a:α):Prop where
 refl:f a a=0
 anti:∀b,f b a = - f a b
 trans:∀b c,f a b<=0->f b c<=0->f a c<=0
 strict:∀b c,f a b<=0->f b c<=0->f a c=0->f a b=0/\f b c=0
theorem jA(a:Int):L4 oW a:=by
 constructor
 ·simp[oW]
 ·intro b;unfold oW;split<;>split<;>first|rfl|omega|(split<;>first|rfl|omega)
 ·intro b c;unfold oW;repeat' split
  all_goals omega
 ·intro b c;unfold oW;repeat' split
  all_goals omega
theorem oQ:∀a:List UInt8,L4 iL a
 | []=>by
  constructor
  ·rfl
  ·intro b;cases b<;>rfl
  ·intro b c;cases b<;>cases c<;>simp[iL]
  ·intro b c;cases b<;>cases c<;>simp[iL]
 | a::as=>by
  have ih:=oQ as;constructor
  ·simp[iL,UInt8.lt_irrefl,ih.refl]
  ·intro b;cases b with
   | nil=>rfl
   | cons b bs=>
    have:=ih.anti bs;simp only[iL];simp only[UInt8.lt_iff_toNat_lt] at *;repeat' split
    all_goals omega
  ·intro b c;cases b with
   | nil=>cases c<;>simp[iL]
   | cons b bs=>
    cases c with
    | nil=>simp[iL]
    | cons c cs=>
     have:=ih.trans bs cs;simp only[iL];simp only[UInt8.lt_iff_toNat_lt] at *;repeat' split
     all_goals omega
  ·intro b c;cases b with
   | nil=>cases c<;>simp[iL]
   | cons b bs=>
    cases c with
    | nil=>simp[iL]
    | cons c cs=>
     have:=ih.strict bs cs;simp only[iL];simp only[UInt8.lt_iff_toNat_lt] at *;repeat' split
     all_goals omega
theorem mC{c d c' d':Int}(h:c' = - c)(h':d' = - d):andThen c' d' = - andThen c d:=by
 unfold andThen;repeat' split
 all_goals omega
theorem mH{x y z x' y' z':Int}(h:x<=0->y<=0->z<=0)(hs:x<=0->y<=0->z=0->x=0/\y=0)(h':x'<=0->y'<=0->z'<=0) :
  andThen x x'<=0->andThen y y'<=0->andThen z z'<=0:=by
 unfold andThen;intro h1 h2;repeat' split at h1
 all_goals repeat' split at h2
 all_goals repeat' split
 all_goals omega
theorem qF{x y z x' y' z':Int}(h:x<=0->y<=0->z<=0)(hs:x<=0->y<=0->z=0->x=0/\y=0)(h':x'<=0->y'<=0->z'<=0)(hs':x'<=0->y'<=0->z'=0->x'=0/\y'=0) :
  andThen x x'<=0->andThen y y'<=0->andThen z z'=0->andThen x x'=0/\andThen y y'=0:=by
 unfold andThen;intro h1 h2 h3;repeat' split at h1
 all_goals repeat' split at h2
 all_goals repeat' split at h3
 all_goals simp_all
 all_goals omega
mutual
theorem iB:∀a:a7,L4 bW a
 | .mk k n s ks=>by
  have i1:=jA k;have i2:=jA n;have i3:=oQ s;have i4:=xI ks;constructor
  ·simp[bW,i1.refl,i2.refl,i3.refl,i4.refl,andThen]
  ·rintro⟨k',n',s',ks'⟩;simp only[bW];exact mC (i1.anti _) (mC (i2.anti _) (mC (i3.anti _) (i4.anti _)))
  ·rintro⟨k1,n1,s1,ks1⟩ ⟨k2,n2,s2,ks2⟩;simp only[bW];exact mH (i1.trans _ _) (i1.strict _ _) (mH (i2.trans _ _) (i2.strict _ _) (mH (i3.trans _ _) (i3.strict _ _) (i4.trans _ _)))
  ·rintro⟨k1,n1,s1,ks1⟩ ⟨k2,n2,s2,ks2⟩;simp only[bW];have a3:=mH (i3.trans s1 s2) (i3.strict s1 s2) (i4.trans ks1 ks2);have b3:=qF (i3.trans s1 s2) (i3.strict s1 s2) (i4.trans ks1 ks2) (i4.strict ks1 ks2);have a2:=mH (i2.trans n1 n2) (i2.strict n1 n2) a3;have b2:=qF (i2.trans n1 n2) (i2.strict n1 n2) a3 b3;exact qF (i1.trans k1 k2) (i1.strict k1 k2) a2 b2
theorem xI:∀a:List a7,L4 fC a
 | []=>by
  constructor
  ·simp[fC]
  ·intro b;cases b<;>simp[fC]
  ·intro b c;cases b<;>cases c<;>simp[fC]
  ·intro b c;cases b<;>cases c<;>simp[fC]
 | a::as=>by
  have i1:=iB a;have i2:=xI as;constructor
  ·simp[fC,i1.refl,i2.refl,andThen]
  ·intro b;cases b with
   | nil=>simp[fC]
   | cons b bs=>simp only[fC];exact mC (i1.anti _) (i2.anti _)
  ·intro b c;cases b with
   | nil=>cases c<;>simp[fC]
   | cons b bs=>
    cases c with
    | nil=>simp[fC]
    | cons c cs=>simp only[fC];exact mH (i1.trans _ _) (i1.strict _ _) (i2.trans _ _)
  ·intro b c;cases b with
   | nil=>cases c<;>simp[fC]
   | cons b bs=>
    cases c with
    | nil=>simp[fC]
    | cons c cs=>simp only[fC];exact qF (i1.trans _ _) (i1.strict _ _) (i2.trans _ _) (i2.strict _ _)
end
end Go.Ax
