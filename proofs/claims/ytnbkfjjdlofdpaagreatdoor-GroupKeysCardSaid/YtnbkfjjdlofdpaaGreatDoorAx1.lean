/- A part of the proof. -/

set_option linter.unusedVariables false
set_option linter.unusedSimpArgs false
set_option linter.unusedSectionVars false
namespace Go.Ax
inductive fI where
 | mk (kind n:Int) (s:List UInt8) (kids:List fI)
def dE(x y:Int):Int:=if x<y then -1 else if y<x then 1 else 0
def o5:List UInt8->List UInt8->Int
 | [],[]=>0
 | [],_::_=>-1
 | _::_,[]=>1
 | a::as,b::bs=>if a<b then -1 else if b<a then 1 else o5 as bs
def andThen(c d:Int):Int:=if c=0 then d else c
mutual
def jN:fI->fI->Int
 | .mk k n s ks,.mk k' n' s' ks'=>andThen (dE k k') (andThen (dE n n') (andThen (o5 s s') (lI ks ks')))
def lI:List fI->List fI->Int
 | [],[]=>0
 | [],_::_=>-1
 | _::_,[]=>1
 | a::as,b::bs=>andThen (jN a b) (lI as bs)
end
structure zU{α:Type}(f:α->α->Int)(a:α):Prop where
 refl:f a a=0
 anti:∀b,f b a = - f a b
 trans:∀b c,f a b<=0->f b c<=0->f a c<=0
 strict:∀b c,f a b<=0->f b c<=0->f a c=0->f a b=0/\f b c=0
theorem iF(a:Int):zU dE a:=by
 constructor
 ·simp[dE]
 ·intro b;unfold dE;split<;>split<;>first|rfl|omega|(split<;>first|rfl|omega)
 ·intro b c;unfold dE;repeat' split
  all_goals omega
 ·intro b c;unfold dE;repeat' split
  all_goals omega
theorem tT:∀a:List UInt8,zU o5 a
 | []=>by
  constructor
  ·rfl
  ·intro b;cases b<;>rfl
  ·intro b c;cases b<;>cases c<;>simp[o5]
  ·intro b c;cases b<;>cases c<;>simp[o5]
 | a::as=>by
  have ih:=tT as;constructor
  ·simp[o5,UInt8.lt_irrefl,ih.refl]
  ·intro b;cases b with
   | nil=>rfl
   | cons b bs=>
    have:=ih.anti bs;simp only[o5];simp only[UInt8.lt_iff_toNat_lt] at *;repeat' split
    all_goals omega
  ·intro b c;cases b with
   | nil=>cases c<;>simp[o5]
   | cons b bs=>
    cases c with
    | nil=>simp[o5]
    | cons c cs=>
     have:=ih.trans bs cs;simp only[o5];simp only[UInt8.lt_iff_toNat_lt] at *;repeat' split
     all_goals omega
  ·intro b c;cases b with
   | nil=>cases c<;>simp[o5]
   | cons b bs=>
    cases c with
    | nil=>simp[o5]
    | cons c cs=>
     have:=ih.strict bs cs;simp only[o5];simp only[UInt8.lt_iff_toNat_lt] at *;repeat' split
     all_goals omega
theorem cV{c d c' d':Int}(h:c' = - c)(h':d' = - d):andThen c' d' = - andThen c d:=by
 unfold andThen;repeat' split
 all_goals omega
theorem dX{x y z x' y' z':Int}(h:x<=0->y<=0->z<=0)(hs:x<=0->y<=0->z=0->x=0/\y=0)(h':x'<=0->y'<=0->z'<=0) :
  andThen x x'<=0->andThen y y'<=0->andThen z z'<=0:=by
 unfold andThen;intro h1 h2;repeat' split at h1
 all_goals repeat' split at h2
 all_goals repeat' split
 all_goals omega
theorem eS{x y z x' y' z':Int}(h:x<=0->y<=0->z<=0)(hs:x<=0->y<=0->z=0->x=0/\y=0)(h':x'<=0->y'<=0->z'<=0)(hs':x'<=0->y'<=0->z'=0->x'=0/\y'=0) :
  andThen x x'<=0->andThen y y'<=0->andThen z z'=0->andThen x x'=0/\andThen y y'=0:=by
 unfold andThen;intro h1 h2 h3;repeat' split at h1
 all_goals repeat' split at h2
 all_goals repeat' split at h3
 all_goals simp_all
 all_goals omega
mutual
theorem oK:∀a:fI,zU jN a
 | .mk k n s ks=>by
  have i1:=iF k;have i2:=iF n;have i3:=tT s;have i4:=u0 ks;constructor
  ·simp[jN,i1.refl,i2.refl,i3.refl,i4.refl,andThen]
  ·rintro⟨k',n',s',ks'⟩;simp only[jN];exact cV (i1.anti _) (cV (i2.anti _) (cV (i3.anti _) (i4.anti _)))
  ·rintro⟨k1,n1,s1,ks1⟩ ⟨k2,n2,s2,ks2⟩;simp only[jN];exact dX (i1.trans _ _) (i1.strict _ _) (dX (i2.trans _ _) (i2.strict _ _) (dX (i3.trans _ _) (i3.strict _ _) (i4.trans _ _)))
  ·rintro⟨k1,n1,s1,ks1⟩ ⟨k2,n2,s2,ks2⟩;simp only[jN];have a3:=dX (i3.trans s1 s2) (i3.strict s1 s2) (i4.trans ks1 ks2);have b3:=eS (i3.trans s1 s2) (i3.strict s1 s2) (i4.trans ks1 ks2) (i4.strict ks1 ks2);have a2:=dX (i2.trans n1 n2) (i2.strict n1 n2) a3;have b2:=eS (i2.trans n1 n2) (i2.strict n1 n2) a3 b3;exact eS (i1.trans k1 k2) (i1.strict k1 k2) a2 b2
theorem u0:∀a:List fI,zU lI a
 | []=>by
  constructor
  ·simp[lI]
  ·intro b;cases b<;>simp[lI]
  ·intro b c;cases b<;>cases c<;>simp[lI]
  ·intro b c;cases b<;>cases c<;>simp[lI]
 | a::as=>by
  have i1:=oK a;have i2:=u0 as;constructor
  ·simp[lI,i1.refl,i2.refl,andThen]
  ·intro b;cases b with
   | nil=>simp[lI]
   | cons b bs=>simp only[lI];exact cV (i1.anti _) (i2.anti _)
  ·intro b c;cases b with
   | nil=>cases c<;>simp[lI]
   | cons b bs=>
    cases c with
    | nil=>simp[lI]
    | cons c cs=>simp only[lI];exact dX (i1.trans _ _) (i1.strict _ _) (i2.trans _ _)
  ·intro b c;cases b with
   | nil=>cases c<;>simp[lI]
   | cons b bs=>
    cases c with
    | nil=>simp[lI]
    | cons c cs=>simp only[lI];exact eS (i1.trans _ _) (i1.strict _ _) (i2.trans _ _) (i2.strict _ _)
end
end Go.Ax
