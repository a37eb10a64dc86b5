/- A part of the proof. -/

set_option linter.unusedVariables false
set_option linter.unusedSimpArgs false
set_option linter.unusedSectionVars false
namespace Go.Ax
inductive a6 where
 | mk (kind n:Int) (s:List UInt8) (kids:List a6)
def tD(x y:Int):Int:=if x<y then -1 else if y<x then 1 else 0
def kG:List UInt8->List UInt8->Int
 | [],[]=>0
 | [],_::_=>-1
 | _::_,[]=>1
 | a::as,b::bs=>if a<b then -1 else if b<a then 1 else kG as bs
def andThen(c d:Int):Int:=if c=0 then d else c
mutual
def cE:a6->a6->Int
 | .mk k n s ks,.mk k' n' s' ks'=>andThen (tD k k') (andThen (tD n n') (andThen (kG s s') (gF ks ks')))
def gF:List a6->List a6->Int
 | [],[]=>0
 | [],_::_=>-1
 | _::_,[]=>1
 | a::as,b::bs=>andThen (cE a b) (gF as bs)
end
structure PJ{α:Type}(f:α->α->Int)(a:α):Prop where
 refl:f a a=0
 anti:∀b,f b a = - f a b
 trans:∀b c,f a b<=0->f b c<=0->f a c<=0
 strict:∀b c,f a b<=0->f b c<=0->f a c=0->f a b=0/\f b c=0
theorem kX(a:Int):PJ tD a:=by
 constructor
 ·simp[tD]
 ·intro b;unfold tD;split<;>split<;>first|rfl|omega|(split<;>first|rfl|omega)
 ·intro b c;unfold tD;repeat' split
  all_goals omega
 ·intro b c;unfold tD;repeat' split
  all_goals omega
theorem qQ:∀a:List UInt8,PJ kG a
 | []=>by
  constructor
  ·rfl
  ·intro b;cases b<;>rfl
  ·intro b c;cases b<;>cases c<;>simp[kG]
  ·intro b c;cases b<;>cases c<;>simp[kG]
 | a::as=>by
  have ih:=qQ as;constructor
  ·simp[kG,UInt8.lt_irrefl,ih.refl]
  ·intro b;cases b with
   | nil=>rfl
   | cons b bs=>
    have:=ih.anti bs;simp only[kG];simp only[UInt8.lt_iff_toNat_lt] at *;repeat' split
    all_goals omega
  ·intro b c;cases b with
   | nil=>cases c<;>simp[kG]
   | cons b bs=>
    cases c with
    | nil=>simp[kG]
    | cons c cs=>
     have:=ih.trans bs cs;simp only[kG];simp only[UInt8.lt_iff_toNat_lt] at *;repeat' split
     all_goals omega
  ·intro b c;cases b with
   | nil=>cases c<;>simp[kG]
   | cons b bs=>
    cases c with
    | nil=>simp[kG]
    | cons c cs=>
     have:=ih.strict bs cs;simp only[kG];simp only[UInt8.lt_iff_toNat_lt] at *;repeat' split
     all_goals omega
theorem oM{c d c' d':Int}(h:c' = - c)(h':d' = - d):andThen c' d' = - andThen c d:=by
 unfold andThen;repeat' split
 all_goals omega
theorem oY{x y z x' y' z':Int}(h:x<=0->y<=0->z<=0)(hs:x<=0->y<=0->z=0->x=0/\y=0)(h':x'<=0->y'<=0->z'<=0) :
  andThen x x'<=0->andThen y y'<=0->andThen z z'<=0:=by
 unfold andThen;intro h1 h2;repeat' split at h1
 all_goals repeat' split at h2
 all_goals repeat' split
 all_goals omega
theorem r9{x y z x' y' z':Int}(h:x<=0->y<=0->z<=0)(hs:x<=0->y<=0->z=0->x=0/\y=0)(h':x'<=0->y'<=0->z'<=0)(hs':x'<=0->y'<=0->z'=0->x'=0/\y'=0) :
  andThen x x'<=0->andThen y y'<=0->andThen z z'=0->andThen x x'=0/\andThen y y'=0:=by
 unfold andThen;intro h1 h2 h3;repeat' split at h1
 all_goals repeat' split at h2
 all_goals repeat' split at h3
 all_goals simp_all
 all_goals omega
mutual
theorem lL:∀a:a6,PJ cE a
 | .mk k n s ks=>by
  have i1:=kX k;have i2:=kX n;have i3:=qQ s;have i4:=Ak ks;constructor
  ·simp[cE,i1.refl,i2.refl,i3.refl,i4.refl,andThen]
  ·rintro⟨k',n',s',ks'⟩;simp only[cE];exact oM (i1.anti _) (oM (i2.anti _) (oM (i3.anti _) (i4.anti _)))
  ·rintro⟨k1,n1,s1,ks1⟩ ⟨k2,n2,s2,ks2⟩;simp only[cE];exact oY (i1.trans _ _) (i1.strict _ _) (oY (i2.trans _ _) (i2.strict _ _) (oY (i3.trans _ _) (i3.strict _ _) (i4.trans _ _)))
  ·rintro⟨k1,n1,s1,ks1⟩ ⟨k2,n2,s2,ks2⟩;simp only[cE];have a3:=oY (i3.trans s1 s2) (i3.strict s1 s2) (i4.trans ks1 ks2);have b3:=r9 (i3.trans s1 s2) (i3.strict s1 s2) (i4.trans ks1 ks2) (i4.strict ks1 ks2);have a2:=oY (i2.trans n1 n2) (i2.strict n1 n2) a3;have b2:=r9 (i2.trans n1 n2) (i2.strict n1 n2) a3 b3;exact r9 (i1.trans k1 k2) (i1.strict k1 k2) a2 b2
theorem Ak:∀a:List a6,PJ gF a
 | []=>by
  constructor
  ·simp[gF]
  ·intro b;cases b<;>simp[gF]
  ·intro b c;cases b<;>cases c<;>simp[gF]
  ·intro b c;cases b<;>cases c<;>simp[gF]
 | a::as=>by
  have i1:=lL a;have i2:=Ak as;constructor
  ·simp[gF,i1.refl,i2.refl,andThen]
  ·intro b;cases b with
   | nil=>simp[gF]
   | cons b bs=>simp only[gF];exact oM (i1.anti _) (i2.anti _)
  ·intro b c;cases b with
   | nil=>cases c<;>simp[gF]
   | cons b bs=>
    cases c with
    | nil=>simp[gF]
    | cons c cs=>simp only[gF];exact oY (i1.trans _ _) (i1.strict _ _) (i2.trans _ _)
  ·intro b c;cases b with
   | nil=>cases c<;>simp[gF]
   | cons b bs=>
    cases c with
    | nil=>simp[gF]
    | cons c cs=>simp only[gF];exact r9 (i1.trans _ _) (i1.strict _ _) (i2.trans _ _) (i2.strict _ _)
end
end Go.Ax
