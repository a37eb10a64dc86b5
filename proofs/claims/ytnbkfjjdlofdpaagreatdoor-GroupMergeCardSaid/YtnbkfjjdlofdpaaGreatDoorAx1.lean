/- A part of the proof. -/

set_option linter.unusedVariables false
set_option linter.unusedSimpArgs false
set_option linter.unusedSectionVars false
namespace Go.Ax
inductive fS where
 | mk (kind n:Int) (s:List UInt8) (kids:List fS)
def cB(x y:Int):Int:=if x<y then -1 else if y<x then 1 else 0
def o0:List UInt8->List UInt8->Int
 | [],[]=>0
 | [],_::_=>-1
 | _::_,[]=>1
 | a::as,b::bs=>if a<b then -1 else if b<a then 1 else o0 as bs
def andThen(c d:Int):Int:=if c=0 then d else c
mutual
def j6:fS->fS->Int
 | .mk k n s ks,.mk k' n' s' ks'=>andThen (cB k k') (andThen (cB n n') (andThen (o0 s s') (lU ks ks')))
def lU:List fS->List fS->Int
 | [],[]=>0
 | [],_::_=>-1
 | _::_,[]=>1
 | a::as,b::bs=>andThen (j6 a b) (lU as bs)
end
structure AE{α:Type}(f:α->α->Int)(a:α):Prop where
 refl:f a a=0
 anti:∀b,f b a = - f a b
 trans:∀b c,f a b<=0->f b c<=0->f a c<=0
 strict:∀b c,f a b<=0->f b c<=0->f a c=0->f a b=0/\f b c=0
theorem jA(a:Int):AE cB a:=by
 constructor
 ·simp[cB]
 ·intro b;unfold cB;split<;>split<;>first|rfl|omega|(split<;>first|rfl|omega)
 ·intro b c;unfold cB;repeat' split
  all_goals omega
 ·intro b c;unfold cB;repeat' split
  all_goals omega
theorem uM:∀a:List UInt8,AE o0 a
 | []=>by
  constructor
  ·rfl
  ·intro b;cases b<;>rfl
  ·intro b c;cases b<;>cases c<;>simp[o0]
  ·intro b c;cases b<;>cases c<;>simp[o0]
 | a::as=>by
  have ih:=uM as;constructor
  ·simp[o0,UInt8.lt_irrefl,ih.refl]
  ·intro b;cases b with
   | nil=>rfl
   | cons b bs=>
    have:=ih.anti bs;simp only[o0];simp only[UInt8.lt_iff_toNat_lt] at *;repeat' split
    all_goals omega
  ·intro b c;cases b with
   | nil=>cases c<;>simp[o0]
   | cons b bs=>
    cases c with
    | nil=>simp[o0]
    | cons c cs=>
     have:=ih.trans bs cs;simp only[o0];simp only[UInt8.lt_iff_toNat_lt] at *;repeat' split
     all_goals omega
  ·intro b c;cases b with
   | nil=>cases c<;>simp[o0]
   | cons b bs=>
    cases c with
    | nil=>simp[o0]
    | cons c cs=>
     have:=ih.strict bs cs;simp only[o0];simp only[UInt8.lt_iff_toNat_lt] at *;repeat' split
     all_goals omega
theorem cY{c d c' d':Int}(h:c' = - c)(h':d' = - d):andThen c' d' = - andThen c d:=by
 unfold andThen;repeat' split
 all_goals omega
theorem d5{x y z x' y' z':Int}(h:x<=0->y<=0->z<=0)(hs:x<=0->y<=0->z=0->x=0/\y=0)(h':x'<=0->y'<=0->z'<=0) :
  andThen x x'<=0->andThen y y'<=0->andThen z z'<=0:=by
 unfold andThen;intro h1 h2;repeat' split at h1
 all_goals repeat' split at h2
 all_goals repeat' split
 all_goals omega
theorem e8{x y z x' y' z':Int}(h:x<=0->y<=0->z<=0)(hs:x<=0->y<=0->z=0->x=0/\y=0)(h':x'<=0->y'<=0->z'<=0)(hs':x'<=0->y'<=0->z'=0->x'=0/\y'=0) :
  andThen x x'<=0->andThen y y'<=0->andThen z z'=0->andThen x x'=0/\andThen y y'=0:=by
 unfold andThen;intro h1 h2 h3;repeat' split at h1
 all_goals repeat' split at h2
 all_goals repeat' split at h3
 all_goals simp_all
 all_goals omega
mutual
theorem pB:∀a:fS,AE j6 a
 | .mk k n s ks=>by
  have i1:=jA k;have i2:=jA n;have i3:=uM s;have i4:=uV ks;constructor
  ·simp[j6,i1.refl,i2.refl,i3.refl,i4.refl,andThen]
  ·rintro⟨k',n',s',ks'⟩;simp only[j6];exact cY (i1.anti _) (cY (i2.anti _) (cY (i3.anti _) (i4.anti _)))
  ·rintro⟨k1,n1,s1,ks1⟩ ⟨k2,n2,s2,ks2⟩;simp only[j6];exact d5 (i1.trans _ _) (i1.strict _ _) (d5 (i2.trans _ _) (i2.strict _ _) (d5 (i3.trans _ _) (i3.strict _ _) (i4.trans _ _)))
  ·rintro⟨k1,n1,s1,ks1⟩ ⟨k2,n2,s2,ks2⟩;simp only[j6];have a3:=d5 (i3.trans s1 s2) (i3.strict s1 s2) (i4.trans ks1 ks2);have b3:=e8 (i3.trans s1 s2) (i3.strict s1 s2) (i4.trans ks1 ks2) (i4.strict ks1 ks2);have a2:=d5 (i2.trans n1 n2) (i2.strict n1 n2) a3;have b2:=e8 (i2.trans n1 n2) (i2.strict n1 n2) a3 b3;exact e8 (i1.trans k1 k2) (i1.strict k1 k2) a2 b2
theorem uV:∀a:List fS,AE lU a
 | []=>by
  constructor
  ·simp[lU]
  ·intro b;cases b<;>simp[lU]
  ·intro b c;cases b<;>cases c<;>simp[lU]
  ·intro b c;cases b<;>cases c<;>simp[lU]
 | a::as=>by
  have i1:=pB a;have i2:=uV as;constructor
  ·simp[lU,i1.refl,i2.refl,andThen]
  ·intro b;cases b with
   | nil=>simp[lU]
   | cons b bs=>simp only[lU];exact cY (i1.anti _) (i2.anti _)
  ·intro b c;cases b with
   | nil=>cases c<;>simp[lU]
   | cons b bs=>
    cases c with
    | nil=>simp[lU]
    | cons c cs=>simp only[lU];exact d5 (i1.trans _ _) (i1.strict _ _) (i2.trans _ _)
  ·intro b c;cases b with
   | nil=>cases c<;>simp[lU]
   | cons b bs=>
    cases c with
    | nil=>simp[lU]
    | cons c cs=>simp only[lU];exact e8 (i1.trans _ _) (i1.strict _ _) (i2.trans _ _) (i2.strict _ _)
end
end Go.Ax
