/- A part of the proof. -/
set_option linter.unusedVariables false
set_option linter.unusedSimpArgs false
set_option maxRecDepth 1000000
set_option maxHeartbeats 16000000

namespace Go.Ax
theorem su{p q:Prop}(x:q)(e:q->p:=by(intro x;simpa using x)):p:=e x
theorem sq{p:Prop}(h:p:=by simp):p:=h
theorem oq{a b:Prop}(h:a:=by omega)(k:b:=by omega):a/\b:=⟨h,k⟩
inductive aQ where
 | mk (kind n:Int) (s:List UInt8) (kids:List aQ)
def wG(x y:Int):Int:=if x<y then -1 else if y<x then 1 else 0
def lK:List UInt8->List UInt8->Int
 | [],[]=>0
 | [],_::_=>-1
 | _::_,[]=>1
 | a::as,b::bs=>if a<b then -1 else if b<a then 1 else lK as bs
def andThen(c d:Int):Int:=if c=0 then d else c
mutual
def cJ:aQ->aQ->Int
 | .mk k n s ks,.mk k' n' s' ks'=>andThen (wG k k') (andThen (wG n n') (andThen (lK s s') (g5 ks ks')))
def g5:List aQ->List aQ->Int
 | [],[]=>0
 | [],_::_=>-1
 | _::_,[]=>1
 | a::as,b::bs=>andThen (cJ a b) (g5 as bs)
end
structure TX{V:Type}(f:V->V->Int)(a:V):Prop where
 refl:f a a=0
 anti:∀b,f b a = - f a b
 trans:∀b c,f a b<=0->f b c<=0->f a c<=0
 strict:∀b c,f a b<=0->f b c<=0->f a c=0->f a b=0/\f b c=0
theorem mY(a:Int):TX wG a:=by
 constructor
 .simp[wG]
 .intro b;unfold wG;split<;>split<;>first|rfl|omega|(split<;>first|rfl|omega)
 .intro b c;unfold wG;repeat' split
  all_goals omega
 .intro b c;unfold wG;repeat' split
  all_goals omega
theorem tV:∀a:List UInt8,TX lK a
 | []=>by
  constructor
  .rfl
  .intro b;cases b<;>rfl
  .intro b c;cases b<;>cases c<;>simp[lK]
  .intro b c;cases b<;>cases c<;>simp[lK]
 | a::as=>by
  have ih:=tV as;constructor
  .simp[lK,UInt8.lt_irrefl,ih.refl]
  .intro b;cases b with
   | nil=>rfl
   | cons b bs=>
    have:=ih.anti bs;simp only[lK];simp only[UInt8.lt_iff_toNat_lt] at *;repeat' split
    all_goals omega
  .intro b c;cases b with
   | nil=>cases c<;>simp[lK]
   | cons b bs=>
    cases c with
    | nil=>simp[lK]
    | cons c cs=>
     have:=ih.trans bs cs;simp only[lK];simp only[UInt8.lt_iff_toNat_lt] at *;repeat' split
     all_goals omega
  .intro b c;cases b with
   | nil=>cases c<;>simp[lK]
   | cons b bs=>
    cases c with
    | nil=>simp[lK]
    | cons c cs=>
     have:=ih.strict bs cs;simp only[lK];simp only[UInt8.lt_iff_toNat_lt] at *;repeat' split
     all_goals omega
theorem qM{c d c' d':Int}(h:c' = - c)(h':d' = - d):andThen c' d' = - andThen c d:=by
 unfold andThen;repeat' split
 all_goals omega
theorem qT{x y z x' y' z':Int}(h:x<=0->y<=0->z<=0)(hs:x<=0->y<=0->z=0->x=0/\y=0)(h':x'<=0->y'<=0->z'<=0) :
  andThen x x'<=0->andThen y y'<=0->andThen z z'<=0:=by
 unfold andThen;intro h1 h2;repeat' split at h1
 all_goals repeat' split at h2
 all_goals repeat' split
 all_goals omega
theorem vY{x y z x' y' z':Int}(h:x<=0->y<=0->z<=0)(hs:x<=0->y<=0->z=0->x=0/\y=0)(h':x'<=0->y'<=0->z'<=0)(hs':x'<=0->y'<=0->z'=0->x'=0/\y'=0) :
  andThen x x'<=0->andThen y y'<=0->andThen z z'=0->andThen x x'=0/\andThen y y'=0:=by
 unfold andThen;intro h1 h2 h3;repeat' split at h1
 all_goals repeat' split at h2
 all_goals repeat' split at h3
 all_goals simp_all
 all_goals omega
mutual
theorem oU:∀a:aQ,TX cJ a
 | .mk k n s ks=>by
  have i1:=mY k;have i2:=mY n;have i3:=tV s;have i4:=CP ks;constructor
  .simp[cJ,i1.refl,i2.refl,i3.refl,i4.refl,andThen]
  .rintro⟨k',n',s',ks'⟩;simp only[cJ];exact qM (i1.anti _) (qM (i2.anti _) (qM (i3.anti _) (i4.anti _)))
  .rintro⟨k1,n1,s1,ks1⟩ ⟨k2,n2,s2,ks2⟩;simp only[cJ];exact qT (i1.trans _ _) (i1.strict _ _) (qT (i2.trans _ _) (i2.strict _ _) (qT (i3.trans _ _) (i3.strict _ _) (i4.trans _ _)))
  .rintro⟨k1,n1,s1,ks1⟩ ⟨k2,n2,s2,ks2⟩;simp only[cJ];have a3:=qT (i3.trans s1 s2) (i3.strict s1 s2) (i4.trans ks1 ks2);have b3:=vY (i3.trans s1 s2) (i3.strict s1 s2) (i4.trans ks1 ks2) (i4.strict ks1 ks2);have a2:=qT (i2.trans n1 n2) (i2.strict n1 n2) a3;have b2:=vY (i2.trans n1 n2) (i2.strict n1 n2) a3 b3;exact vY (i1.trans k1 k2) (i1.strict k1 k2) a2 b2
theorem CP:∀a:List aQ,TX g5 a
 | []=>by
  constructor
  .simp[g5]
  .intro b;cases b<;>simp[g5]
  .intro b c;cases b<;>cases c<;>simp[g5]
  .intro b c;cases b<;>cases c<;>simp[g5]
 | a::as=>by
  have i1:=oU a;have i2:=CP as;constructor
  .simp[g5,i1.refl,i2.refl,andThen]
  .intro b;cases b with
   | nil=>simp[g5]
   | cons b bs=>simp only[g5];exact qM (i1.anti _) (i2.anti _)
  .intro b c;cases b with
   | nil=>cases c<;>simp[g5]
   | cons b bs=>
    cases c with
    | nil=>simp[g5]
    | cons c cs=>simp only[g5];exact qT (i1.trans _ _) (i1.strict _ _) (i2.trans _ _)
  .intro b c;cases b with
   | nil=>cases c<;>simp[g5]
   | cons b bs=>
    cases c with
    | nil=>simp[g5]
    | cons c cs=>simp only[g5];exact vY (i1.trans _ _) (i1.strict _ _) (i2.trans _ _) (i2.strict _ _)
end
end Go.Ax
