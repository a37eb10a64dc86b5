/- A part of the proof. -/

set_option linter.unusedVariables false
set_option linter.unusedSimpArgs false
set_option linter.unusedSectionVars false
namespace Go.Ax
inductive aT where
 | mk (kind n:Int) (s:List UInt8) (kids:List aT)
def nU(x y:Int):Int:=if x<y then -1 else if y<x then 1 else 0
def gD:List UInt8->List UInt8->Int
 | [],[]=>0
 | [],_::_=>-1
 | _::_,[]=>1
 | a::as,b::bs=>if a<b then -1 else if b<a then 1 else gD as bs
def andThen(c d:Int):Int:=if c=0 then d else c
mutual
def bU:aT->aT->Int
 | .mk k n s ks,.mk k' n' s' ks'=>andThen (nU k k') (andThen (nU n n') (andThen (gD s s') (d7 ks ks')))
def d7:List aT->List aT->Int
 | [],[]=>0
 | [],_::_=>-1
 | _::_,[]=>1
 | a::as,b::bs=>andThen (bU a b) (d7 as bs)
end
structure I6{α:Type}(f:α->α->Int)(a:α):Prop where
 refl:f a a=0
 anti:∀b,f b a = - f a b
 trans:∀b c,f a b<=0->f b c<=0->f a c<=0
 strict:∀b c,f a b<=0->f b c<=0->f a c=0->f a b=0/\f b c=0
theorem g9(a:Int):I6 nU a:=by
 constructor
 ·simp[nU]
 ·intro b;unfold nU;split<;>split<;>first|rfl|omega|(split<;>first|rfl|omega)
 ·intro b c;unfold nU;repeat' split
  all_goals omega
 ·intro b c;unfold nU;repeat' split
  all_goals omega
theorem lY:∀a:List UInt8,I6 gD a
 | []=>by
  constructor
  ·rfl
  ·intro b;cases b<;>rfl
  ·intro b c;cases b<;>cases c<;>simp[gD]
  ·intro b c;cases b<;>cases c<;>simp[gD]
 | a::as=>by
  have ih:=lY as;constructor
  ·simp[gD,UInt8.lt_irrefl,ih.refl]
  ·intro b;cases b with
   | nil=>rfl
   | cons b bs=>
    have:=ih.anti bs;simp only[gD];simp only[UInt8.lt_iff_toNat_lt] at *;repeat' split
    all_goals omega
  ·intro b c;cases b with
   | nil=>cases c<;>simp[gD]
   | cons b bs=>
    cases c with
    | nil=>simp[gD]
    | cons c cs=>
     have:=ih.trans bs cs;simp only[gD];simp only[UInt8.lt_iff_toNat_lt] at *;repeat' split
     all_goals omega
  ·intro b c;cases b with
   | nil=>cases c<;>simp[gD]
   | cons b bs=>
    cases c with
    | nil=>simp[gD]
    | cons c cs=>
     have:=ih.strict bs cs;simp only[gD];simp only[UInt8.lt_iff_toNat_lt] at *;repeat' split
     all_goals omega
theorem j8{c d c' d':Int}(h:c' = - c)(h':d' = - d):andThen c' d' = - andThen c d:=by
 unfold andThen;repeat' split
 all_goals omega
theorem kD{x y z x' y' z':Int}(h:x<=0->y<=0->z<=0)(hs:x<=0->y<=0->z=0->x=0/\y=0)(h':x'<=0->y'<=0->z'<=0) :
  andThen x x'<=0->andThen y y'<=0->andThen z z'<=0:=by
 unfold andThen;intro h1 h2;repeat' split at h1
 all_goals repeat' split at h2
 all_goals repeat' split
 all_goals omega
theorem mS{x y z x' y' z':Int}(h:x<=0->y<=0->z<=0)(hs:x<=0->y<=0->z=0->x=0/\y=0)(h':x'<=0->y'<=0->z'<=0)(hs':x'<=0->y'<=0->z'=0->x'=0/\y'=0) :
  andThen x x'<=0->andThen y y'<=0->andThen z z'=0->andThen x x'=0/\andThen y y'=0:=by
 unfold andThen;intro h1 h2 h3;repeat' split at h1
 all_goals repeat' split at h2
 all_goals repeat' split at h3
 all_goals simp_all
 all_goals omega
mutual
theorem mE:∀a:aT,I6 bU a
 | .mk k n s ks=>by
  have i1:=g9 k;have i2:=g9 n;have i3:=lY s;have i4:=tQ ks;constructor
  ·simp[bU,i1.refl,i2.refl,i3.refl,i4.refl,andThen]
  ·rintro⟨k',n',s',ks'⟩;simp only[bU];exact j8 (i1.anti _) (j8 (i2.anti _) (j8 (i3.anti _) (i4.anti _)))
  ·rintro⟨k1,n1,s1,ks1⟩ ⟨k2,n2,s2,ks2⟩;simp only[bU];exact kD (i1.trans _ _) (i1.strict _ _) (kD (i2.trans _ _) (i2.strict _ _) (kD (i3.trans _ _) (i3.strict _ _) (i4.trans _ _)))
  ·rintro⟨k1,n1,s1,ks1⟩ ⟨k2,n2,s2,ks2⟩;simp only[bU];have a3:=kD (i3.trans s1 s2) (i3.strict s1 s2) (i4.trans ks1 ks2);have b3:=mS (i3.trans s1 s2) (i3.strict s1 s2) (i4.trans ks1 ks2) (i4.strict ks1 ks2);have a2:=kD (i2.trans n1 n2) (i2.strict n1 n2) a3;have b2:=mS (i2.trans n1 n2) (i2.strict n1 n2) a3 b3;exact mS (i1.trans k1 k2) (i1.strict k1 k2) a2 b2
theorem tQ:∀a:List aT,I6 d7 a
 | []=>by
  constructor
  ·simp[d7]
  ·intro b;cases b<;>simp[d7]
  ·intro b c;cases b<;>cases c<;>simp[d7]
  ·intro b c;cases b<;>cases c<;>simp[d7]
 | a::as=>by
  have i1:=mE a;have i2:=tQ as;constructor
  ·simp[d7,i1.refl,i2.refl,andThen]
  ·intro b;cases b with
   | nil=>simp[d7]
   | cons b bs=>simp only[d7];exact j8 (i1.anti _) (i2.anti _)
  ·intro b c;cases b with
   | nil=>cases c<;>simp[d7]
   | cons b bs=>
    cases c with
    | nil=>simp[d7]
    | cons c cs=>simp only[d7];exact kD (i1.trans _ _) (i1.strict _ _) (i2.trans _ _)
  ·intro b c;cases b with
   | nil=>cases c<;>simp[d7]
   | cons b bs=>
    cases c with
    | nil=>simp[d7]
    | cons c cs=>simp only[d7];exact mS (i1.trans _ _) (i1.strict _ _) (i2.trans _ _) (i2.strict _ _)
end
end Go.Ax
