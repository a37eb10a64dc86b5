/- A part of the proof. -/

set_option linter.unusedVariables false
set_option linter.unusedSimpArgs false
set_option linter.unusedSectionVars false
namespace Go.Ax
inductive aU where
 | mk (kind n:Int) (s:List UInt8) (kids:List aU)
def pM(x y:Int):Int:=if x<y then -1 else if y<x then 1 else 0
def gM:List UInt8->List UInt8->Int
 | [],[]=>0
 | [],_::_=>-1
 | _::_,[]=>1
 | a::as,b::bs=>if a<b then -1 else if b<a then 1 else gM as bs
def andThen(c d:Int):Int:=if c=0 then d else c
mutual
def bS:aU->aU->Int
 | .mk k n s ks,.mk k' n' s' ks'=>andThen (pM k k') (andThen (pM n n') (andThen (gM s s') (dU ks ks')))
def dU:List aU->List aU->Int
 | [],[]=>0
 | [],_::_=>-1
 | _::_,[]=>1
 | a::as,b::bs=>andThen (bS a b) (dU as bs)
end
structure MT{α:Type}(f:α->α->Int)(a:α):Prop where
 refl:f a a=0
 anti:∀b,f b a = - f a b
 trans:∀b c,f a b<=0->f b c<=0->f a c<=0
 strict:∀b c,f a b<=0->f b c<=0->f a c=0->f a b=0/\f b c=0
theorem iC(a:Int):MT pM a:=by
 constructor
 ·simp[pM]
 ·intro b;unfold pM;split<;>split<;>first|rfl|omega|(split<;>first|rfl|omega)
 ·intro b c;unfold pM;repeat' split
  all_goals omega
 ·intro b c;unfold pM;repeat' split
  all_goals omega
theorem nI:∀a:List UInt8,MT gM a
 | []=>by
  constructor
  ·rfl
  ·intro b;cases b<;>rfl
  ·intro b c;cases b<;>cases c<;>simp[gM]
  ·intro b c;cases b<;>cases c<;>simp[gM]
 | a::as=>by
  have ih:=nI as;constructor
  ·simp[gM,UInt8.lt_irrefl,ih.refl]
  ·intro b;cases b with
   | nil=>rfl
   | cons b bs=>
    have:=ih.anti bs;simp only[gM];simp only[UInt8.lt_iff_toNat_lt] at *;repeat' split
    all_goals omega
  ·intro b c;cases b with
   | nil=>cases c<;>simp[gM]
   | cons b bs=>
    cases c with
    | nil=>simp[gM]
    | cons c cs=>
     have:=ih.trans bs cs;simp only[gM];simp only[UInt8.lt_iff_toNat_lt] at *;repeat' split
     all_goals omega
  ·intro b c;cases b with
   | nil=>cases c<;>simp[gM]
   | cons b bs=>
    cases c with
    | nil=>simp[gM]
    | cons c cs=>
     have:=ih.strict bs cs;simp only[gM];simp only[UInt8.lt_iff_toNat_lt] at *;repeat' split
     all_goals omega
theorem kE{c d c' d':Int}(h:c' = - c)(h':d' = - d):andThen c' d' = - andThen c d:=by
 unfold andThen;repeat' split
 all_goals omega
theorem kK{x y z x' y' z':Int}(h:x<=0->y<=0->z<=0)(hs:x<=0->y<=0->z=0->x=0/\y=0)(h':x'<=0->y'<=0->z'<=0) :
  andThen x x'<=0->andThen y y'<=0->andThen z z'<=0:=by
 unfold andThen;intro h1 h2;repeat' split at h1
 all_goals repeat' split at h2
 all_goals repeat' split
 all_goals omega
theorem n4{x y z x' y' z':Int}(h:x<=0->y<=0->z<=0)(hs:x<=0->y<=0->z=0->x=0/\y=0)(h':x'<=0->y'<=0->z'<=0)(hs':x'<=0->y'<=0->z'=0->x'=0/\y'=0) :
  andThen x x'<=0->andThen y y'<=0->andThen z z'=0->andThen x x'=0/\andThen y y'=0:=by
 unfold andThen;intro h1 h2 h3;repeat' split at h1
 all_goals repeat' split at h2
 all_goals repeat' split at h3
 all_goals simp_all
 all_goals omega
mutual
theorem kN:∀a:aU,MT bS a
 | .mk k n s ks=>by
  have i1:=iC k;have i2:=iC n;have i3:=nI s;have i4:=wS ks;constructor
  ·simp[bS,i1.refl,i2.refl,i3.refl,i4.refl,andThen]
  ·rintro⟨k',n',s',ks'⟩;simp only[bS];exact kE (i1.anti _) (kE (i2.anti _) (kE (i3.anti _) (i4.anti _)))
  ·rintro⟨k1,n1,s1,ks1⟩ ⟨k2,n2,s2,ks2⟩;simp only[bS];exact kK (i1.trans _ _) (i1.strict _ _) (kK (i2.trans _ _) (i2.strict _ _) (kK (i3.trans _ _) (i3.strict _ _) (i4.trans _ _)))
  ·rintro⟨k1,n1,s1,ks1⟩ ⟨k2,n2,s2,ks2⟩;simp only[bS];have a3:=kK (i3.trans s1 s2) (i3.strict s1 s2) (i4.trans ks1 ks2);have b3:=n4 (i3.trans s1 s2) (i3.strict s1 s2) (i4.trans ks1 ks2) (i4.strict ks1 ks2);have a2:=kK (i2.trans n1 n2) (i2.strict n1 n2) a3;have b2:=n4 (i2.trans n1 n2) (i2.strict n1 n2) a3 b3;exact n4 (i1.trans k1 k2) (i1.strict k1 k2) a2 b2
theorem wS:∀a:List aU,MT dU a
 | []=>by
  constructor
  ·simp[dU]
  ·intro b;cases b<;>simp[dU]
  ·intro b c;cases b<;>cases c<;>simp[dU]
  ·intro b c;cases b<;>cases c<;>simp[dU]
 | a::as=>by
  have i1:=kN a;have i2:=wS as;constructor
  ·simp[dU,i1.refl,i2.refl,andThen]
  ·intro b;cases b with
   | nil=>simp[dU]
   | cons b bs=>simp only[dU];exact kE (i1.anti _) (i2.anti _)
  ·intro b c;cases b with
   | nil=>cases c<;>simp[dU]
   | cons b bs=>
    cases c with
    | nil=>simp[dU]
    | cons c cs=>simp only[dU];exact kK (i1.trans _ _) (i1.strict _ _) (i2.trans _ _)
  ·intro b c;cases b with
   | nil=>cases c<;>simp[dU]
   | cons b bs=>
    cases c with
    | nil=>simp[dU]
    | cons c cs=>simp only[dU];exact n4 (i1.trans _ _) (i1.strict _ _) (i2.trans _ _) (i2.strict _ _)
end
end Go.Ax
