/- A part of the proof. -/
import Derived.Test.YtnookkohfkjbcaaGreatDoorAx13
import Derived.Test.YtnookkohfkjbcaaGreatDoorProg
import Derived.KernelRfl
import Derived.Shelf.Strconv.Atoi
import Derived.Shelf.Strconv.Itoa0
import Derived.Shelf.Strconv.Itoa1
import Derived.Shelf.LaysM
import Derived.Shelf.Strconv.Itoa2
import Derived.Shelf.Strconv.Itoa3
import Derived.Shelf.Strconv.AtoiErrFast
import Derived.Shelf.Strconv.ParseIntEmpty
import Derived.Shelf.Strconv.AtoiFail
import Derived.Shelf.Strconv.Clone
import Derived.Shelf.Strconv.SyntaxError
import Derived.Shelf.LaysC
import Derived.Shelf.Strconv.ToError
import Derived.Shelf.Strconv.Lower
import Derived.Shelf.Strconv.ParseUint10
import Derived.Shelf.Strconv.ParseUint10Empty
import Derived.Shelf.Strconv.ParseUint10Any
import Derived.Shelf.Strconv.ParseInt10
import Derived.Shelf.Strconv.AtoiLong
import Derived.Shelf.Strconv.AtoiInnerAll
import Derived.Shelf.Strconv.RangeError
import Derived.Shelf.Strconv.ToErrorRange
import Derived.Shelf.Strconv.AtoiAll
set_option linter.unusedVariables false
namespace Go.Proofs.YtnookkohfkjbcaaGreatDoor
open Go Go.Ax Go.Proofs
set_option maxRecDepth 100000
set_option maxHeartbeats 8000000
theorem rSameVs (l m : List Val) (hl : l.length ≤ 4294967296) (hok : ∀ a ∈ l,okV a) : PureC Tryz.prog [] 55 [.il 4 (encVs l),.il 4 (encVs m)] (.bool (sameVs l m)) := by
 refine acalls_go nnΓ Tryz.func55 rfl ?_
 ((conv=>whnf);repeat(refine Xg ?_;conv=>whnf))
 refine bcs_mk (fun h => ?_) (fun h => ?_)
 ·((conv=>whnf);repeat(refine Xg ?_;conv=>whnf))
  refine fin_pure nn ⟨?_,rfl,rfl⟩
  rw [encVs_length,encVs_length] at h
  rw [sameVs_len (by simp at h; omega)]
 have hlen : l.length = m.length := by rw [encVs_length,encVs_length] at h; simp at h; omega
 ((conv=>whnf);repeat(refine Xg ?_;conv=>whnf))
 refine ALoop.at nnΓ (fun k : Nat => k ≤ l.length ∧ sameVs l m = sameVs (l.drop k) (m.drop k))
  (fun k => ⟨[(0,.il 4 (encVs l)),(1,.il 4 (encVs m)),(5,.int .i64 k)],[],0,27⟩) (fun k => l.length - k) 0 [] ⟨by simp,by simp⟩
  (conv_pure ⟨⟨_,rfl,.same _ nn⟩,⟨_,rfl,.same _ nn⟩,⟨_,rfl,.same _ nn⟩,trivial⟩) ?_
 rintro k ⟨hk,hs⟩
 ((conv=>whnf);repeat(refine Xg ?_;conv=>whnf))
 refine bcs_mk (fun h => ?_) (fun h => ?_)
 ·have hlt : k < l.length := klt h
  obtain ⟨p1,p2,p3,p4,pm,pg,pe,ep⟩ := enc_cases (l := l) (k := k) hlt
  obtain ⟨q1,q2,q3,q4,qm,qg,qe,eq⟩ := enc_cases (l := m) (k := k) (by omega)
  have hc := rCompare (.mk p1 p2 p3 p4) (.mk q1 q2 q3 q4) (hok _ pm)
  rw [List.drop_eq_getElem_cons hlt,List.drop_eq_getElem_cons (show k < m.length by omega),pe,qe,sameVs] at hs
  generalize cmpV (.mk p1 p2 p3 p4) (.mk q1 q2 q3 q4) = c at hc hs
  ((conv=>whnf);repeat(refine Xg ?_;conv=>whnf))
  repeat ((first | refine opt_mk ep ?_ | refine opt_mk eq ?_ | refine ⟨rfl, ?_⟩); ((conv=>whnf);repeat(refine Xg ?_;conv=>whnf)))
  refine hc.go ?_
  ((conv=>whnf);repeat(refine Xg ?_;conv=>whnf))
  repeat ((first | refine opt_mk ep ?_ | refine opt_mk eq ?_ | refine ⟨rfl, ?_⟩); ((conv=>whnf);repeat(refine Xg ?_;conv=>whnf)))
  refine bcs_mk (fun h => ?_) (fun h => ?_)
  ·((conv=>whnf);repeat(refine Xg ?_;conv=>whnf))
   refine fin_pure nn ⟨?_,rfl,rfl⟩
   rw [hs,decide_eq_false (by simpa using h)]
   rfl
  ·((conv=>whnf);repeat(refine Xg ?_;conv=>whnf))
   refine .mk (k + 1) [] ⟨by omega, ?_⟩ (conv_pure ⟨⟨_,rfl,.same _ nn⟩,⟨_,rfl,.same _ nn⟩,⟨_,rfl,.w64 (by omega) ⟨by omega,by omega⟩⟩,trivial⟩) (by omega)
   rw [hs,decide_eq_true (by simpa using h),Bool.true_and]
 ·have hge : l.length ≤ k := kge h
  ((conv=>whnf);repeat(refine Xg ?_;conv=>whnf))
  refine fin_pure nn ⟨?_,rfl,rfl⟩
  rw [hs,List.drop_of_length_le (by omega),List.drop_of_length_le (by omega),sameVs]
theorem rMade (x : Nd) (ks : List Val) : PureC Tryz.prog [] 135 [encN x,.il 4 (encVs ks)] (encV (madeV x.name ks)) := by
 obtain ⟨kind,name,lo,hi,ws,ls,vals,kids,⟨vk,vn,vs,vks⟩⟩ := x
 refine acalls_go nnΓ Tryz.func135 rfl ?_
 ((conv=>whnf);repeat(refine Xg ?_;conv=>whnf))
 refine bcs_mk (fun h => ?_) (fun h => ?_)
 ·have h : name = [] := by simpa using h
  ((conv=>whnf);repeat(refine Xg ?_;conv=>whnf))
  exact fin_cv (r' := encV (.mk 2 0 [] ks)) (.same _ nn) ⟨by rw [madeV,if_pos h],rfl,rfl⟩
 ·have h : ¬ name = [] := by simpa using h
  ((conv=>whnf);repeat(refine Xg ?_;conv=>whnf))
  exact fin_cv (r' := encV (.mk 3 0 name ks)) (.same _ nn) ⟨by rw [madeV,if_neg h],rfl,rfl⟩
theorem rNode (i : Nat) (x : Nd) (hi : i ≤ 4294967296) (hx : okN x) (hvl : x.values.length ≤ 4294967290) : PureC Tryz.prog [] 45 [.int .i64 i,encN x] (.int .i64 (nodeE i x)) := by
 have h1 := rFormed14 i x hi hx
 have h2 := rNumbers x hx
 have hval : ∀ a ∈ ownN x,PureC Tryz.prog [] 79 [encV a] (.int .i64 (validV a)) := by
  intro a ha
  have key : okV a ∧ sizeV a ≤ 4294967296 := by
   unfold ownN at ha
   rcases List.mem_append.1 ha with h | h
   ·split at h
    ·simp at h; rw [h]; exact ⟨hx.value,hx.valueS⟩
    ·cases h
   ·exact hx.valuesI a h
  exact rValid a key.1 (by omega)
 have hres : nodeE i x = if formedN i x = false then 1 else if firstE (ownN x) ≠ 0 then firstE (ownN x) else if numbersN x = false then 5 else 0 := rfl
 generalize nodeE i x = res at hres
 generalize formedN i x = fb at h1 hres
 generalize numbersN x = nb at h2 hres
 clear hx
 obtain ⟨kind,name,lo,hi,ws,ls,vals,kids,⟨vk,vn,vs,vks⟩⟩ := x
 simp only at hvl
 have hown : ownN ⟨kind,name,lo,hi,ws,ls,vals,kids,.mk vk vn vs vks⟩ = (if kind = 0 then [Val.mk vk vn vs vks] else []) ++ vals := rfl
 generalize ownN ⟨kind,name,lo,hi,ws,ls,vals,kids,.mk vk vn vs vks⟩ = own at hval hres hown
 have hol : own.length ≤ 4294967291 := by rw [hown]; split <;> simp <;> omega
 refine acalls_go nnΓ Tryz.func45 rfl ?_
 ((conv=>whnf);repeat(refine Xg ?_;conv=>whnf))
 refine h1.go ?_ (.cons (.int _ _) (.cons (encN_nn _) .nil))
 cases fb with
 | false =>
  ((conv=>whnf);repeat(refine Xg ?_;conv=>whnf))
  refine fin_pure nn ⟨?_,rfl,rfl⟩
  rw [hres,if_pos rfl]
 | true =>
  ((conv=>whnf);repeat(refine Xg ?_;conv=>whnf))
  refine bcs_mk (fun h => ?_) (fun h => ?_)
  case' refine_1 =>
   have hk : kind = 0 := by simpa using h
   rw [if_pos hk] at hown
   ((conv=>whnf);repeat(refine Xg ?_;conv=>whnf))
   refine grd_mk (app_ok rfl rfl (by simp) (by simp [encVs_length]; omega)) ?_
   ((conv=>whnf);repeat(refine Xg ?_;conv=>whnf))
   refine ALoop.at nnΓ (fun k : Nat => k ≤ own.length ∧ firstE own = firstE (own.drop k))
    (fun k => ⟨[(3,.ptr 0 0 0),(6,.sl 1 0 own.length),(7,.int .i64 k)],[(0,.row 35 12 [encN ⟨kind,name,lo,hi,ws,ls,vals,kids,.mk vk vn vs vks⟩]),(1,.row 33 4 (encVs own))],2,45⟩) (fun k => own.length - k) 0 [(0,0),(3,1)] ⟨by simp,by simp⟩
    (conv_mk _ rfl ⟨⟨0,_,rfl,rfl,.same (.cons (encN_nn _) .nil)⟩,⟨3,_,rfl,rfl,.eq nns (by rw [hown]; rfl)⟩,trivial⟩ ⟨⟨_,rfl,.ptr 0 0 0 0 rfl⟩,⟨_,rfl,.slE rfl (by rw [hown]; simp [encVs_length]; omega)⟩,⟨_,rfl,.same _ nn⟩,trivial⟩) ?_
  case' refine_2 =>
   have hk : ¬ kind = 0 := by simpa using h
   rw [if_neg hk] at hown
   ((conv=>whnf);repeat(refine Xg ?_;conv=>whnf))
   refine grd_mk (app_nil rfl (by simp [encVs_length]; omega)) ?_
   ((conv=>whnf);repeat(refine Xg ?_;conv=>whnf))
   refine ALoop.at nnΓ (fun k : Nat => k ≤ own.length ∧ firstE own = firstE (own.drop k))
    (fun k => ⟨[(3,.ptr 0 0 0),(6,.sl 1 0 own.length),(7,.int .i64 k)],[(0,.row 35 12 [encN ⟨kind,name,lo,hi,ws,ls,vals,kids,.mk vk vn vs vks⟩]),(1,.row 33 4 (encVs own))],2,45⟩) (fun k => own.length - k) 0 [(0,0),(1,1)] ⟨by simp,by simp⟩
    (conv_mk _ rfl ⟨⟨0,_,rfl,rfl,.same (.cons (encN_nn _) .nil)⟩,⟨1,_,rfl,rfl,.eq nns (by rw [hown]; rfl)⟩,trivial⟩ ⟨⟨_,rfl,.ptr 0 0 0 0 rfl⟩,⟨_,rfl,.slE rfl (by rw [hown]; simp [encVs_length])⟩,⟨_,rfl,.same _ nn⟩,trivial⟩) ?_
  all_goals
   clear h hown hk
   rintro k ⟨hk,hf⟩
   ((conv=>whnf);repeat(refine Xg ?_;conv=>whnf))
   refine bcs_mk (fun h => ?_) (fun h => ?_)
   ·have hlt : k < own.length := by simpa using h
    obtain ⟨p1,p2,p3,p4,pm,pg,pe,ep,bp⟩ := enc_own (l := own) (k := k) (n := own.length) hlt rfl
    have hv := hval _ pm
    rw [List.drop_eq_getElem_cons hlt,pe,firstE] at hf
    generalize validV (.mk p1 p2 p3 p4) = e at hv hf
    ((conv=>whnf);repeat(refine Xg ?_;conv=>whnf))
    repeat ((first | refine grd_mk bp ?_ | refine opt_mk ep ?_); ((conv=>whnf);repeat(refine Xg ?_;conv=>whnf)))
    refine hv.go ?_
    ((conv=>whnf);repeat(refine Xg ?_;conv=>whnf))
    refine bcs_mk (fun h => ?_) (fun h => ?_)
    ·have h : e ≠ 0 := by simpa using h
     ((conv=>whnf);repeat(refine Xg ?_;conv=>whnf))
     refine fin_pure nn ⟨?_,rfl,rfl⟩
     rw [if_pos h] at hf
     rw [hres,if_neg (by simp),hf,if_pos h]
    ·have h : ¬ e ≠ 0 := by simpa using h
     rw [if_neg h] at hf
     ((conv=>whnf);repeat(refine Xg ?_;conv=>whnf))
     exact .mk (k + 1) [(0,0),(1,1)] ⟨by omega,hf⟩ (conv_mk _ rfl ⟨⟨0,_,rfl,rfl,.same (.cons (encN_nn _) .nil)⟩,⟨1,_,rfl,rfl,.same nns⟩,trivial⟩ ⟨⟨_,rfl,.ptr 0 0 0 0 rfl⟩,⟨_,rfl,.sl 1 1 0 _ rfl⟩,⟨_,rfl,.w64 (by omega) ⟨by omega,by omega⟩⟩,trivial⟩) (by omega)
   ·have hge : own.length ≤ k := by simpa using h
    rw [List.drop_of_length_le hge,firstE] at hf
    ((conv=>whnf);repeat(refine Xg ?_;conv=>whnf))
    refine h2.go ?_ (.cons (encN_nn _) .nil)
    cases nb with
    | false =>
     ((conv=>whnf);repeat(refine Xg ?_;conv=>whnf))
     refine fin_pure nn ⟨?_,rfl,rfl⟩
     rw [hres,if_neg (by simp),hf,if_neg (by simp),if_pos rfl]
    | true =>
     ((conv=>whnf);repeat(refine Xg ?_;conv=>whnf))
     refine fin_pure nn ⟨?_,rfl,rfl⟩
     rw [hres,if_neg (by simp),hf,if_neg (by simp),if_neg (by simp)]
set_option maxHeartbeats 8000000
theorem rLengths (bs : List Int) (x : Nd) (hx : okN x) (hbl : bs.length ≤ 1000000) (hb : ∀ y ∈ bs,0 ≤ y ∧ y ≤ 1024) (hk : ∀ (j : Nat) (k : Int),x.kids[j]? = some k → 0 ≤ k ∧ k < bs.length) (h4 : 4 ≤ x.kind → 0 < x.kids.length) (hkind : 0 ≤ x.kind ∧ x.kind ≤ 4) :
  ACalls Tryz.prog [] 46 [.sl 0 0 bs.length,encN x] [(0,.row 3 1 (encI bs))] 1 fun r m _ => ∃ (len : Nat) (ys : List AV),r = .sl 1 0 len ∧ m = [(1,.row 3 1 ys)] ∧ NNs ys ∧ (len = bs.length + 1 ∧ ys = encI (bs ++ [lenN bs x])) := by
 have b1 := hx.kids
 have b2 := hx.value
 have b3 := hx.valueS
 clear hx
 have hat := atI_bound (b := bs) (M := 1024) (by omega) hb
 have hsum := sumK_bound (b := bs) (M := 1024) (by omega) hb
 have hmost := mostK_bound (b := bs) (M := 1024) (by omega) hb
 obtain ⟨kind,name,lo,hi,ws,ls,vals,kids,⟨vk,vn,vs,vks⟩⟩ := x
 simp only at b1 b2 b3 hk h4 hkind
 have hfin : ∀ (v : Int) (m : Mem) (n id : Nat) (e : Int),lk m id = some (.row 3 1 (encI bs ++ [.int .i64 e])) → 1 ≤ id → e = v → v = lenN bs ⟨kind,name,lo,hi,ws,ls,vals,kids,.mk vk vn vs vks⟩ →
   Fini 1 (fun r m _ => ∃ (len : Nat) (ys : List AV),r = .sl 1 0 len ∧ m = [(1,.row 3 1 ys)] ∧ NNs ys ∧ (len = bs.length + 1 ∧ ys = encI (bs ++ [lenN bs ⟨kind,name,lo,hi,ws,ls,vals,kids,.mk vk vn vs vks⟩]))) (.sl id 0 (bs.length + 1)) m n := by
  intro v m n id e hid h1 he hv
  refine fin_mk (n' := 2) (m' := [(1,.row 3 1 (encI (bs ++ [v])))]) [(id,1)] ?_ ⟨⟨id,_,by simp [lk],hid,.eq (encI_nn _) (by rw [he]; simp [encI])⟩,trivial⟩ (.sl id 1 0 _ (by simp [lk])) ⟨_,_,rfl,rfl,encI_nn _,rfl,by rw [hv]⟩
  simp [nod2,notIn,nodM,keyOut,oldOK]
 refine acalls_go nnΓ Tryz.func46 rfl ?_
 ((conv=>whnf);repeat(refine Xg ?_;conv=>whnf))
 refine ALoop.at nnΓ (fun k : Nat => k ≤ kids.length)
  (fun k => ⟨[(0,.sl 0 0 bs.length),(3,.ptr 1 0 0),(5,.int .i64 (0 + sumK bs (kids.take k))),(6,.int .i64 (mostK bs (if kind = 2 then kids.take k else (kids.take k).drop 1))),(7,.int .i64 k)],[(0,.row 3 1 (encI bs)),(1,.row 35 12 [encN ⟨kind,name,lo,hi,ws,ls,vals,kids,.mk vk vn vs vks⟩])],2,74⟩) (fun k => kids.length - k) 0 [(0,0),(1,1)] (by simp)
  (conv_mk _ rfl ⟨⟨0,_,rfl,rfl,.same nns⟩,⟨1,_,rfl,rfl,.same (.cons (encN_nn _) .nil)⟩,trivial⟩ ⟨⟨_,rfl,.sl 0 0 0 _ rfl⟩,⟨_,rfl,.ptr 1 1 0 0 rfl⟩,⟨_,rfl,.int rfl⟩,⟨_,rfl,.int (by split <;> rfl)⟩,⟨_,rfl,.same _ nn⟩,trivial⟩) ?_
 intro k hkl
 have hs1 := hsum (kids.take k)
 have hlen : (kids.take k).length = k := by simp; omega
 rw [hlen] at hs1
 ((conv=>whnf);repeat(refine Xg ?_;conv=>whnf))
 refine bcs_mk (fun h => ?_) (fun h => ?_)
 ·have hlt : k < kids.length := by rw [encI_length] at h; simpa using h
  have e1 : (encI kids)[(k : Int).toNat]? = some (.int .i64 kids[k]) := by rw [Int.toNat_natCast,encI_get,List.getElem?_eq_getElem hlt]; rfl
  have hg : kids[k]? = some kids[k] := List.getElem?_eq_getElem hlt
  have hst := sumK_take (b := bs) hlt
  have hmt := mostK_take (b := bs) hlt
  have hmd := mostK_drop (b := bs) hlt
  generalize kids[k] = q at e1 hg hst hmt hmd
  obtain ⟨q1,q2⟩ := hk k q hg
  have hq := hat q
  obtain ⟨qn,rfl⟩ := Int.eq_ofNat_of_zero_le q1
  have hqn : qn < bs.length := by omega
  have e2 : (encI bs)[0 + (qn : Int).toNat]? = some (.int .i64 (atI bs qn)) := by rw [Nat.zero_add,Int.toNat_natCast,encI_get,List.getElem?_eq_getElem hqn]; simp [atI,hqn]
  have bq : Nat.blt (qn : Int).toNat bs.length = true := Nat.ble_eq_true_of_le (by simp; omega)
  generalize atI bs qn = av at e2 hst hmt hmd hq
  ((conv=>whnf);repeat(refine Xg ?_;conv=>whnf))
  repeat ((first | refine opt_mk e1 ?_ | refine grd_mk bq ?_ | refine opt_mk e2 ?_); ((conv=>whnf);repeat(refine Xg ?_;conv=>whnf)))
  have hw : IntKind.i64.wrap (0 + sumK bs (kids.take k) + av) = 0 + sumK bs (kids.take (k + 1)) := w64 (by omega) ⟨by omega,by omega⟩
  refine bcs_mk (fun h => ?_) (fun h => ?_)
  ·have h2 : kind = 2 := by simpa using h
   rw [h]
   ((conv=>whnf);repeat(refine Xg ?_;conv=>whnf))
   exact .mk (k + 1) [(0,0),(1,1)] (by omega) (conv_mk _ rfl ⟨⟨0,_,rfl,rfl,.same nns⟩,⟨1,_,rfl,rfl,.same (.cons (encN_nn _) .nil)⟩,trivial⟩ ⟨⟨_,rfl,.sl 0 0 0 _ rfl⟩,⟨_,rfl,.ptr 1 1 0 0 rfl⟩,⟨_,rfl,.int hw⟩,⟨_,rfl,.int (by rw [if_pos h2,if_pos h2,hmt]; simp; omega)⟩,⟨_,rfl,.w64 (by omega) ⟨by omega,by omega⟩⟩,trivial⟩) (by omega)
  ·have h2 : ¬ kind = 2 := by simpa using h
   rw [h]
   ((conv=>whnf);repeat(refine Xg ?_;conv=>whnf))
   refine bcs_mk (fun h => ?_) (fun h => ?_)
   ·have h3 : 0 < k := by simp at h; omega
    ((conv=>whnf);repeat(refine Xg ?_;conv=>whnf))
    exact .mk (k + 1) [(0,0),(1,1)] (by omega) (conv_mk _ rfl ⟨⟨0,_,rfl,rfl,.same nns⟩,⟨1,_,rfl,rfl,.same (.cons (encN_nn _) .nil)⟩,trivial⟩ ⟨⟨_,rfl,.sl 0 0 0 _ rfl⟩,⟨_,rfl,.ptr 1 1 0 0 rfl⟩,⟨_,rfl,.int hw⟩,⟨_,rfl,.int (by rw [if_neg h2,if_neg h2,hmd h3]; simp; omega)⟩,⟨_,rfl,.w64 (by omega) ⟨by omega,by omega⟩⟩,trivial⟩) (by omega)
   ·have h3 : k = 0 := by simp at h; omega
    ((conv=>whnf);repeat(refine Xg ?_;conv=>whnf))
    exact .mk (k + 1) [(0,0),(1,1)] (by omega) (conv_mk _ rfl ⟨⟨0,_,rfl,rfl,.same nns⟩,⟨1,_,rfl,rfl,.same (.cons (encN_nn _) .nil)⟩,trivial⟩ ⟨⟨_,rfl,.sl 0 0 0 _ rfl⟩,⟨_,rfl,.ptr 1 1 0 0 rfl⟩,⟨_,rfl,.int hw⟩,⟨_,rfl,.int (by rw [if_neg h2,if_neg h2,h3]; cases kids <;> simp)⟩,⟨_,rfl,.w64 (by omega) ⟨by omega,by omega⟩⟩,trivial⟩) (by omega)
 ·have hke : k = kids.length := by rw [encI_length] at h; simp at h; omega
  rw [hke,List.take_length] at *
  have hm1 := hmost kids
  have hm2 := hmost (kids.drop 1)
  have hs2 := hsum kids
  clear hke h
  rcases (show kind = 0 ∨ kind = 1 ∨ kind = 2 ∨ kind = 3 ∨ kind = 4 by omega) with rfl | rfl | rfl | rfl | rfl
  ·((conv=>whnf);repeat(refine Xg ?_;conv=>whnf))
   refine grd_mk (app_ok rfl rfl (by rw [encI_length]) (by simp; omega)) ?_
   ((conv=>whnf);repeat(refine Xg ?_;conv=>whnf))
   exact hfin 0 _ _ _ _ rfl (by decide) rfl rfl
  ·((conv=>whnf);repeat(refine Xg ?_;conv=>whnf))
   refine grd_mk (app_ok rfl rfl (by rw [encI_length]) (by simp; omega)) ?_
   ((conv=>whnf);repeat(refine Xg ?_;conv=>whnf))
   exact hfin 1 _ _ _ _ rfl (by decide) rfl rfl
  ·rw [if_pos rfl] at *
   ((conv=>whnf);repeat(refine Xg ?_;conv=>whnf))
   refine grd_mk (app_ok rfl rfl (by rw [encI_length]) (by simp; omega)) ?_
   ((conv=>whnf);repeat(refine Xg ?_;conv=>whnf))
   exact hfin (1 + mostK bs kids) _ _ _ _ rfl (by decide) (w64 rfl ⟨by omega,by omega⟩) rfl
  ·((conv=>whnf);repeat(refine Xg ?_;conv=>whnf))
   refine grd_mk (app_ok rfl rfl (by rw [encI_length]) (by simp; omega)) ?_
   ((conv=>whnf);repeat(refine Xg ?_;conv=>whnf))
   exact hfin (sumK bs kids) _ _ _ _ rfl (by decide) (by omega) rfl
  ·rw [if_neg (by omega)] at *
   have hpos : 0 < kids.length := h4 (by omega)
   have e1 : (encI kids)[(0 : Int).toNat]? = some (.int .i64 (kids.getD 0 0)) := by rw [show (0 : Int).toNat = 0 from rfl,encI_get,List.getElem?_eq_getElem hpos]; simp [hpos]
   obtain ⟨q1,q2⟩ := hk 0 (kids.getD 0 0) (by simp [hpos])
   have hval : lenN bs ⟨4,name,lo,hi,ws,ls,vals,kids,.mk vk vn vs vks⟩ = atI bs (kids.getD 0 0) + mostK bs (kids.drop 1) := rfl
   generalize kids.getD 0 0 = q at e1 q1 q2 hval
   have hq := hat q
   obtain ⟨qn,rfl⟩ := Int.eq_ofNat_of_zero_le q1
   have hqn : qn < bs.length := by omega
   have e2 : (encI bs)[0 + (qn : Int).toNat]? = some (.int .i64 (atI bs qn)) := by rw [Nat.zero_add,Int.toNat_natCast,encI_get,List.getElem?_eq_getElem hqn]; simp [atI,hqn]
   have bq : Nat.blt (qn : Int).toNat bs.length = true := Nat.ble_eq_true_of_le (by simp; omega)
   generalize atI bs qn = av at e2 hval hq
   ((conv=>whnf);repeat(refine Xg ?_;conv=>whnf))
   repeat ((first | refine opt_mk e1 ?_ | refine grd_mk bq ?_ | refine opt_mk e2 ?_); ((conv=>whnf);repeat(refine Xg ?_;conv=>whnf)))
   refine grd_mk (app_ok rfl rfl (by rw [encI_length]) (by simp; omega)) ?_
   ((conv=>whnf);repeat(refine Xg ?_;conv=>whnf))
   exact hfin (av + mostK bs (kids.drop 1)) _ _ _ _ rfl (by decide) (w64 rfl ⟨by omega,by omega⟩) hval.symm
theorem rSizes (bs : List Int) (x : Nd) (hx : okN x) (hbl : bs.length ≤ 1000000) (hb : ∀ y ∈ bs,0 ≤ y ∧ y ≤ 1024) (hk : ∀ (j : Nat) (k : Int),x.kids[j]? = some k → 0 ≤ k ∧ k < bs.length) (h4 : 4 ≤ x.kind → 0 < x.kids.length) (hkind : 0 ≤ x.kind ∧ x.kind ≤ 4) :
  ACalls Tryz.prog [] 47 [.sl 0 0 bs.length,encN x] [(0,.row 3 1 (encI bs))] 1 fun r m _ => ∃ (len : Nat) (ys : List AV),r = .sl 1 0 len ∧ m = [(1,.row 3 1 ys)] ∧ NNs ys ∧ (len = bs.length + 1 ∧ ys = encI (bs ++ [sizN bs x])) := by
 have b1 := hx.kids
 have b2 := hx.value
 have b3 := hx.valueS
 clear hx
 have hat := atI_bound (b := bs) (M := 1024) (by omega) hb
 have hsum := sumK_bound (b := bs) (M := 1024) (by omega) hb
 have hmost := mostK_bound (b := bs) (M := 1024) (by omega) hb
 obtain ⟨kind,name,lo,hi,ws,ls,vals,kids,⟨vk,vn,vs,vks⟩⟩ := x
 simp only at b1 b2 b3 hk h4 hkind
 have hfin : ∀ (v : Int) (m : Mem) (n id : Nat) (e : Int),lk m id = some (.row 3 1 (encI bs ++ [.int .i64 e])) → 1 ≤ id → e = v → v = sizN bs ⟨kind,name,lo,hi,ws,ls,vals,kids,.mk vk vn vs vks⟩ →
   Fini 1 (fun r m _ => ∃ (len : Nat) (ys : List AV),r = .sl 1 0 len ∧ m = [(1,.row 3 1 ys)] ∧ NNs ys ∧ (len = bs.length + 1 ∧ ys = encI (bs ++ [sizN bs ⟨kind,name,lo,hi,ws,ls,vals,kids,.mk vk vn vs vks⟩]))) (.sl id 0 (bs.length + 1)) m n := by
  intro v m n id e hid h1 he hv
  refine fin_mk (n' := 2) (m' := [(1,.row 3 1 (encI (bs ++ [v])))]) [(id,1)] ?_ ⟨⟨id,_,by simp [lk],hid,.eq (encI_nn _) (by rw [he]; simp [encI])⟩,trivial⟩ (.sl id 1 0 _ (by simp [lk])) ⟨_,_,rfl,rfl,encI_nn _,rfl,by rw [hv]⟩
  simp [nod2,notIn,nodM,keyOut,oldOK]
 refine acalls_go nnΓ Tryz.func47 rfl ?_
 ((conv=>whnf);repeat(refine Xg ?_;conv=>whnf))
 refine ALoop.at nnΓ (fun k : Nat => k ≤ kids.length)
  (fun k => ⟨[(0,.sl 0 0 bs.length),(3,.ptr 1 0 0),(5,.int .i64 (1 + sumK bs (kids.take k))),(6,.int .i64 (mostK bs (if kind = 2 then kids.take k else (kids.take k).drop 1))),(7,.int .i64 k)],[(0,.row 3 1 (encI bs)),(1,.row 35 12 [encN ⟨kind,name,lo,hi,ws,ls,vals,kids,.mk vk vn vs vks⟩])],2,62⟩) (fun k => kids.length - k) 0 [(0,0),(1,1)] (by simp)
  (conv_mk _ rfl ⟨⟨0,_,rfl,rfl,.same nns⟩,⟨1,_,rfl,rfl,.same (.cons (encN_nn _) .nil)⟩,trivial⟩ ⟨⟨_,rfl,.sl 0 0 0 _ rfl⟩,⟨_,rfl,.ptr 1 1 0 0 rfl⟩,⟨_,rfl,.int rfl⟩,⟨_,rfl,.int (by split <;> rfl)⟩,⟨_,rfl,.same _ nn⟩,trivial⟩) ?_
 intro k hkl
 have hs1 := hsum (kids.take k)
 have hlen : (kids.take k).length = k := by simp; omega
 rw [hlen] at hs1
 ((conv=>whnf);repeat(refine Xg ?_;conv=>whnf))
 refine bcs_mk (fun h => ?_) (fun h => ?_)
 ·have hlt : k < kids.length := by rw [encI_length] at h; simpa using h
  have e1 : (encI kids)[(k : Int).toNat]? = some (.int .i64 kids[k]) := by rw [Int.toNat_natCast,encI_get,List.getElem?_eq_getElem hlt]; rfl
  have hg : kids[k]? = some kids[k] := List.getElem?_eq_getElem hlt
  have hst := sumK_take (b := bs) hlt
  have hmt := mostK_take (b := bs) hlt
  have hmd := mostK_drop (b := bs) hlt
  generalize kids[k] = q at e1 hg hst hmt hmd
  obtain ⟨q1,q2⟩ := hk k q hg
  have hq := hat q
  obtain ⟨qn,rfl⟩ := Int.eq_ofNat_of_zero_le q1
  have hqn : qn < bs.length := by omega
  have e2 : (encI bs)[0 + (qn : Int).toNat]? = some (.int .i64 (atI bs qn)) := by rw [Nat.zero_add,Int.toNat_natCast,encI_get,List.getElem?_eq_getElem hqn]; simp [atI,hqn]
  have bq : Nat.blt (qn : Int).toNat bs.length = true := Nat.ble_eq_true_of_le (by simp; omega)
  generalize atI bs qn = av at e2 hst hmt hmd hq
  ((conv=>whnf);repeat(refine Xg ?_;conv=>whnf))
  repeat ((first | refine opt_mk e1 ?_ | refine grd_mk bq ?_ | refine opt_mk e2 ?_); ((conv=>whnf);repeat(refine Xg ?_;conv=>whnf)))
  have hw : IntKind.i64.wrap (1 + sumK bs (kids.take k) + av) = 1 + sumK bs (kids.take (k + 1)) := w64 (by omega) ⟨by omega,by omega⟩
  refine bcs_mk (fun h => ?_) (fun h => ?_)
  ·have h2 : kind = 2 := by simpa using h
   rw [h]
   ((conv=>whnf);repeat(refine Xg ?_;conv=>whnf))
   exact .mk (k + 1) [(0,0),(1,1)] (by omega) (conv_mk _ rfl ⟨⟨0,_,rfl,rfl,.same nns⟩,⟨1,_,rfl,rfl,.same (.cons (encN_nn _) .nil)⟩,trivial⟩ ⟨⟨_,rfl,.sl 0 0 0 _ rfl⟩,⟨_,rfl,.ptr 1 1 0 0 rfl⟩,⟨_,rfl,.int hw⟩,⟨_,rfl,.int (by rw [if_pos h2,if_pos h2,hmt]; simp; omega)⟩,⟨_,rfl,.w64 (by omega) ⟨by omega,by omega⟩⟩,trivial⟩) (by omega)
  ·have h2 : ¬ kind = 2 := by simpa using h
   rw [h]
   ((conv=>whnf);repeat(refine Xg ?_;conv=>whnf))
   refine bcs_mk (fun h => ?_) (fun h => ?_)
   ·have h3 : 0 < k := by simp at h; omega
    ((conv=>whnf);repeat(refine Xg ?_;conv=>whnf))
    exact .mk (k + 1) [(0,0),(1,1)] (by omega) (conv_mk _ rfl ⟨⟨0,_,rfl,rfl,.same nns⟩,⟨1,_,rfl,rfl,.same (.cons (encN_nn _) .nil)⟩,trivial⟩ ⟨⟨_,rfl,.sl 0 0 0 _ rfl⟩,⟨_,rfl,.ptr 1 1 0 0 rfl⟩,⟨_,rfl,.int hw⟩,⟨_,rfl,.int (by rw [if_neg h2,if_neg h2,hmd h3]; simp; omega)⟩,⟨_,rfl,.w64 (by omega) ⟨by omega,by omega⟩⟩,trivial⟩) (by omega)
   ·have h3 : k = 0 := by simp at h; omega
    ((conv=>whnf);repeat(refine Xg ?_;conv=>whnf))
    exact .mk (k + 1) [(0,0),(1,1)] (by omega) (conv_mk _ rfl ⟨⟨0,_,rfl,rfl,.same nns⟩,⟨1,_,rfl,rfl,.same (.cons (encN_nn _) .nil)⟩,trivial⟩ ⟨⟨_,rfl,.sl 0 0 0 _ rfl⟩,⟨_,rfl,.ptr 1 1 0 0 rfl⟩,⟨_,rfl,.int hw⟩,⟨_,rfl,.int (by rw [if_neg h2,if_neg h2,h3]; cases kids <;> simp)⟩,⟨_,rfl,.w64 (by omega) ⟨by omega,by omega⟩⟩,trivial⟩) (by omega)
 ·have hke : k = kids.length := by rw [encI_length] at h; simp at h; omega
  rw [hke,List.take_length] at *
  have hm1 := hmost kids
  have hm2 := hmost (kids.drop 1)
  have hs2 := hsum kids
  clear hke h
  rcases (show kind = 0 ∨ kind = 1 ∨ kind = 2 ∨ kind = 3 ∨ kind = 4 by omega) with rfl | rfl | rfl | rfl | rfl
  ·have hz := rSize (.mk vk vn vs vks) (by omega)
   have hval : sizN bs ⟨0,name,lo,hi,ws,ls,vals,kids,.mk vk vn vs vks⟩ = ((sizeV (.mk vk vn vs vks) : Nat) : Int) := rfl
   generalize sizeV (.mk vk vn vs vks) = sz at hz hval
   ((conv=>whnf);repeat(refine Xg ?_;conv=>whnf))
   refine hz.go ?_
   ((conv=>whnf);repeat(refine Xg ?_;conv=>whnf))
   refine grd_mk (app_ok rfl rfl (by rw [encI_length]) (by simp; omega)) ?_
   ((conv=>whnf);repeat(refine Xg ?_;conv=>whnf))
   exact hfin sz _ _ _ _ rfl (by decide) rfl hval.symm
  ·((conv=>whnf);repeat(refine Xg ?_;conv=>whnf))
   refine grd_mk (app_ok rfl rfl (by rw [encI_length]) (by simp; omega)) ?_
   ((conv=>whnf);repeat(refine Xg ?_;conv=>whnf))
   exact hfin 1 _ _ _ _ rfl (by decide) rfl rfl
  ·rw [if_pos rfl] at *
   ((conv=>whnf);repeat(refine Xg ?_;conv=>whnf))
   refine grd_mk (app_ok rfl rfl (by rw [encI_length]) (by simp; omega)) ?_
   ((conv=>whnf);repeat(refine Xg ?_;conv=>whnf))
   exact hfin (mostK bs kids) _ _ _ _ rfl (by decide) rfl rfl
  ·((conv=>whnf);repeat(refine Xg ?_;conv=>whnf))
   refine grd_mk (app_ok rfl rfl (by rw [encI_length]) (by simp; omega)) ?_
   ((conv=>whnf);repeat(refine Xg ?_;conv=>whnf))
   exact hfin (1 + sumK bs kids) _ _ _ _ rfl (by decide) rfl rfl
  ·rw [if_neg (by omega)] at *
   ((conv=>whnf);repeat(refine Xg ?_;conv=>whnf))
   refine grd_mk (app_ok rfl rfl (by rw [encI_length]) (by simp; omega)) ?_
   ((conv=>whnf);repeat(refine Xg ?_;conv=>whnf))
   exact hfin (mostK bs (kids.drop 1)) _ _ _ _ rfl (by decide) rfl rfl
end Go.Proofs.YtnookkohfkjbcaaGreatDoor
namespace Go.Proofs.YtnookkohfkjbcaaGreatDoor
open Go Go.Ax Go.Proofs
set_option maxRecDepth 100000
theorem isAt_some {l : List Val} {k : Nat} {v a : Val} (h : l[k]? = some a) : isAt l k v = (cmpV a v == 0) := by simp [isAt, h]
theorem isAt_none {l : List Val} {k : Nat} {v : Val} (h : l.length ≤ k) : isAt l k v = false := by simp [isAt, List.getElem?_eq_none h]
theorem rFind (l : List Val) (v : Val) (hl : l.length ≤ 4294967296) (hok : ∀ a ∈ l, okV a) :
  PureC Tryz.prog [] 87 [.il 4 (encVs l), encV v] (.tup [.int .i64 (findV l v).1, .bool (findV l v).2]) := by
 obtain ⟨vk, vn, vs, vks⟩ := v
 have nl : NN (.il 4 (encVs l)) := .il' (encVs_nn l)
 have nt : ∀ (k : Int) (b : Bool), NN (.tup [.int .i64 k, .bool b]) := fun k b => .tup' (.cons (.int _ _) (.cons (.bool _) .nil))
 refine acalls_run nnΓ Tryz.func87 rfl ?_
 conv => whnf
 refine AWp.loopAt nnΓ (fun k : Nat => k ≤ l.length ∧ ∀ p a, p < k → l[p]? = some a → cmpV a (.mk vk vn vs vks) < 0)
  (fun k => ⟨[(0, .il 4 (encVs l)), (3, .ptr 0 0 0), (6, .int .i64 k)], [(0, .row 33 4 [encV (.mk vk vn vs vks)])], 1, 27⟩)
  (fun k => l.length - k) 0 [(0, 0)] ⟨by simp, by simp⟩
  (conv_mk _ rfl ⟨⟨0, _, rfl, rfl, .same (.cons (encV_nn _) .nil)⟩, trivial⟩ ⟨⟨_, rfl, .same _ nl⟩, ⟨_, rfl, .ptr 0 0 0 0 rfl⟩, ⟨_, rfl, .same _ (.int _ _)⟩, trivial⟩) ?_
 rintro k ⟨h1, h2⟩
 conv => whnf
 refine bcs_mk (fun h => ?_) (fun h => ?_)
 ·have hk : k < l.length := by rw [encVs_length] at h; simpa using h
  have e := enc_at hk
  obtain ⟨⟨ak, an, az, aks⟩, hv⟩ : ∃ a, a = l[k] := ⟨_, rfl⟩
  rw [← hv] at e
  have hm : Val.mk ak an az aks ∈ l := by rw [hv]; exact List.getElem_mem hk
  have hg : l[k]? = some (Val.mk ak an az aks) := by rw [hv]; exact List.getElem?_eq_getElem hk
  conv => whnf
  refine opt_mk e ?_
  conv => whnf
  refine (rCompare (.mk ak an az aks) (.mk vk vn vs vks) (hok _ hm)).use nnΓ (.cons (encV_nn _) (.cons (encV_nn _) .nil)) (.int _ _) ?_
  conv => whnf
  refine bcs_mk (fun h3 => ?_) (fun h3 => ?_)
  ·have h3 : 0 ≤ cmpV (.mk ak an az aks) (.mk vk vn vs vks) := by simpa using h3
   conv => whnf
   refine fin_pure (nt _ _) ⟨?_, rfl, rfl⟩
   rw [findV_at h1 h2 (fun a ha => by rw [hg] at ha; cases ha; exact h3), isAt_some hg]
  ·have h3 : cmpV (.mk ak an az aks) (.mk vk vn vs vks) < 0 := by simpa using h3
   conv => whnf
   refine .mk (k + 1) [(0, 0)] ⟨by omega, fun p a hp ha => ?_⟩ (conv_mk _ rfl ⟨⟨0, _, rfl, rfl, .same (.cons (encV_nn _) .nil)⟩, trivial⟩ ⟨⟨_, rfl, .same _ nl⟩, ⟨_, rfl, .ptr 0 0 0 0 rfl⟩, ⟨_, rfl, .eq (.int _ _) ?_⟩, trivial⟩) (by omega)
   ·rcases Nat.lt_or_ge p k with hp' | hp'
    ·exact h2 p a hp' ha
    ·have : p = k := by omega
     subst this
     rw [hg] at ha
     cases ha
     exact h3
   ·rw [wrap64 ⟨by omega, by omega⟩]; rfl
 ·have hk : k = l.length := by rw [encVs_length] at h; simp at h; omega
  conv => whnf
  refine fin_pure (nt _ _) ⟨?_, rfl, rfl⟩
  rw [findV_at h1 h2 (fun a ha => by rw [List.getElem?_eq_none (by omega)] at ha; cases ha), isAt_none (by omega), encVs_length, hk]
theorem vSearch (l : List Val) (v : Val) (hl : l.length ≤ 4294967296) (hok : ∀ a ∈ l, okV a) (hs : Srt l) :
  PureC Tryz.prog [] 111 [.il 4 (encVs l), encV v, .fn (.func 59) [] []] (.tup [.int .i64 (findV l v).1, .bool (findV l v).2]) := by
 obtain ⟨vk, vn, vs, vks⟩ := v
 have nl : NN (.il 4 (encVs l)) := .il' (encVs_nn l)
 have nf : NN (.fn (.func 59) [] []) := .fn _ _ _ (by simp) (by simp)
 have nt : ∀ (k : Int) (b : Bool), NN (.tup [.int .i64 k, .bool b]) := fun k b => .tup' (.cons (.int _ _) (.cons (.bool _) .nil))
 refine acalls_run nnΓ Tryz.func111 rfl ?_
 conv => whnf
 refine AWp.loopAt nnΓ (fun x : Nat × Nat => x.1 ≤ x.2 ∧ x.2 ≤ l.length ∧ (∀ p a, p < x.1 → l[p]? = some a → cmpV a (.mk vk vn vs vks) < 0) ∧ ∀ a, l[x.2]? = some a → 0 ≤ cmpV a (.mk vk vn vs vks))
  (fun x => ⟨[(0, .il 4 (encVs l)), (2, .fn (.func 59) [] []), (4, .ptr 0 0 0), (8, .int .i64 (encVs l).length), (9, .int .i64 x.1), (10, .int .i64 x.2)], [(0, .row 33 4 [encV (.mk vk vn vs vks)])], 1, 49⟩)
  (fun x => x.2 - x.1) (0, l.length) [(0, 0)] ⟨by simp, by simp, by simp, fun a ha => by simp at ha⟩
  (conv_mk _ rfl ⟨⟨0, _, rfl, rfl, .same (.cons (encV_nn _) .nil)⟩, trivial⟩ ⟨⟨_, rfl, .same _ nl⟩, ⟨_, rfl, .same _ nf⟩, ⟨_, rfl, .ptr 0 0 0 0 rfl⟩, ⟨_, rfl, .same _ (.int _ _)⟩, ⟨_, rfl, .same _ (.int _ _)⟩, ⟨_, rfl, .eq (.int _ _) (by rw [encVs_length])⟩, trivial⟩) ?_
 rintro ⟨i, j⟩ ⟨h1, h2, h3, h4⟩
 dsimp only at h1 h2 h3 h4 ⊢
 conv => whnf
 refine bcs_mk (fun h => ?_) (fun h => ?_)
 ·have hij : i < j := by simpa using h
  have hw1 : IntKind.i64.wrap ((i : Int) + j) = ((i + j : Nat) : Int) := wrap64 ⟨by omega, by omega⟩
  have hw2 : IntKind.u64.wrap ((i + j : Nat) : Int) = ((i + j : Nat) : Int) := IntWalk.u64_in _ ⟨by omega, by omega⟩
  have hw3 : ((i + j : Nat) : Int).fdiv (2 ^ min (Int.toNat 1) IntKind.u64.bits) = (((i + j) / 2 : Nat) : Int) := by
   rw [show (2 : Int) ^ min (Int.toNat 1) IntKind.u64.bits = 2 from rfl, Int.fdiv_eq_ediv_of_nonneg _ (by omega)]
   omega
  have hw4 : IntKind.i64.wrap (((i + j) / 2 : Nat) : Int) = (((i + j) / 2 : Nat) : Int) := wrap64 ⟨by omega, by omega⟩
  generalize hm : (i + j) / 2 = m at *
  have hm1 : i ≤ m := by omega
  have hm2 : m < j := by omega
  have hk : m < l.length := by omega
  have e := enc_at hk
  obtain ⟨⟨ak, an, az, aks⟩, hv⟩ : ∃ a, a = l[m] := ⟨_, rfl⟩
  rw [← hv] at e
  have hmem : Val.mk ak an az aks ∈ l := by rw [hv]; exact List.getElem_mem hk
  have hg : l[m]? = some (Val.mk ak an az aks) := by rw [hv]; exact List.getElem?_eq_getElem hk
  conv => whnf
  rw [hw1, hw2, hw3, hw4]
  conv => whnf
  refine opt_mk e ?_
  conv => whnf
  refine (vCompare (.mk ak an az aks) (.mk vk vn vs vks) (hok _ hmem)).use nnΓ (.cons (encV_nn _) (.cons (encV_nn _) .nil)) (.int _ _) ?_
  conv => whnf
  refine bcs_mk (fun h5 => ?_) (fun h5 => ?_)
  ·have h5 : cmpV (.mk ak an az aks) (.mk vk vn vs vks) < 0 := by simpa using h5
   conv => whnf
   refine .mk (m + 1, j) [(0, 0)] ⟨by simp only; omega, h2, fun p a hp ha => ?_, h4⟩ (conv_mk _ rfl ⟨⟨0, _, rfl, rfl, .same (.cons (encV_nn _) .nil)⟩, trivial⟩ ⟨⟨_, rfl, .same _ nl⟩, ⟨_, rfl, .same _ nf⟩, ⟨_, rfl, .ptr 0 0 0 0 rfl⟩, ⟨_, rfl, .same _ (.int _ _)⟩, ⟨_, rfl, .eq (.int _ _) ?_⟩, ⟨_, rfl, .same _ (.int _ _)⟩, trivial⟩) (by simp only; omega)
   ·simp only at hp
    rcases Nat.lt_or_ge p m with hp' | hp'
    ·exact le_lt (by have := hs.get hp' ha hg; omega) h5
    ·have : p = m := by omega
     subst this
     rw [hg] at ha
     cases ha
     exact h5
   ·rw [wrap64 ⟨by omega, by omega⟩]; rfl
  ·have h5 : 0 ≤ cmpV (.mk ak an az aks) (.mk vk vn vs vks) := by simpa using h5
   conv => whnf
   exact .mk (i, m) [(0, 0)] ⟨hm1, by simp only; omega, h3, fun a ha => by rw [hg] at ha; cases ha; exact h5⟩ (conv_mk _ rfl ⟨⟨0, _, rfl, rfl, .same (.cons (encV_nn _) .nil)⟩, trivial⟩ ⟨⟨_, rfl, .same _ nl⟩, ⟨_, rfl, .same _ nf⟩, ⟨_, rfl, .ptr 0 0 0 0 rfl⟩, ⟨_, rfl, .same _ (.int _ _)⟩, ⟨_, rfl, .same _ (.int _ _)⟩, ⟨_, rfl, .same _ (.int _ _)⟩, trivial⟩) (by simp only; omega)
 ·have hij : i = j := by simp at h; omega
  subst hij
  have hf := findV_at h2 h3 h4
  conv => whnf
  refine bcs_mk (fun h5 => ?_) (fun h5 => ?_)
  ·have hk : i < l.length := by rw [encVs_length] at h5; simpa using h5
   have e := enc_at hk
   obtain ⟨⟨ak, an, az, aks⟩, hv⟩ : ∃ a, a = l[i] := ⟨_, rfl⟩
   rw [← hv] at e
   have hmem : Val.mk ak an az aks ∈ l := by rw [hv]; exact List.getElem_mem hk
   have hg : l[i]? = some (Val.mk ak an az aks) := by rw [hv]; exact List.getElem?_eq_getElem hk
   rw [h5]
   conv => whnf
   refine opt_mk e ?_
   conv => whnf
   refine (vCompare (.mk ak an az aks) (.mk vk vn vs vks) (hok _ hmem)).use nnΓ (.cons (encV_nn _) (.cons (encV_nn _) .nil)) (.int _ _) ?_
   conv => whnf
   refine fin_pure (nt _ _) ⟨?_, rfl, rfl⟩
   rw [hf, isAt_some hg]
  ·have hk : l.length ≤ i := by rw [encVs_length] at h5; simpa using h5
   rw [h5]
   conv => whnf
   refine fin_pure (nt _ _) ⟨?_, rfl, rfl⟩
   rw [hf, isAt_none hk]
theorem vFind (l : List Val) (v : Val) (hl : l.length ≤ 4294967296) (hok : ∀ a ∈ l, okV a) (hs : Srt l) :
  PureC Tryz.prog [] 85 [.il 4 (encVs l), encV v] (.tup [.int .i64 (findV l v).1, .bool (findV l v).2]) := by
 obtain ⟨vk, vn, vs, vks⟩ := v
 have nl : NN (.il 4 (encVs l)) := .il' (encVs_nn l)
 have nf : NN (.fn (.func 59) [] []) := .fn _ _ _ (by simp) (by simp)
 have nt : ∀ (k : Int) (b : Bool), NN (.tup [.int .i64 k, .bool b]) := fun k b => .tup' (.cons (.int _ _) (.cons (.bool _) .nil))
 refine acalls_run nnΓ Tryz.func85 rfl ?_
 conv => whnf
 refine (vSearch l (.mk vk vn vs vks) hl hok hs).use nnΓ (.cons nl (.cons (encV_nn _) (.cons nf .nil))) (nt _ _) ?_
 conv => whnf
 exact fin_pure (nt _ _) ⟨rfl, rfl, rfl⟩
set_option maxHeartbeats 4000000
theorem sc2' (k : Int) (b : Bool) : Sc (.tup [.int .i64 k, .bool b]) := .tup _ fun j c h => by
 rcases j with _ | _ | j <;> simp at h <;> subst h
 ·exact .int _ _
 ·exact .bool _
theorem rSortO (l : List Val) (hl : l.length ≤ 4294967296) (hok : ∀ a ∈ l, okV a) :
  ACalls Tryz.prog [] 122 [.il 4 (encVs l)] [] 0 fun r m n => r = .sl 0 0 (sortV l).length ∧ m = [(0, .row 33 4 (encVs (sortV l)))] ∧ n = 1 := by
 have nl : NN (.il 4 (encVs l)) := nn
 refine acalls_go nnΓ Tryz.func122 rfl ?_
 ((conv=>whnf);repeat(refine Xg ?_;conv=>whnf))
 refine ALoop.ph 33 4 ?_
 refine ALoop.at nnΓ (fun x : Nat × List Val => x.1 ≤ l.length ∧ x.2 = sortV (l.take x.1))
  (fun x => ⟨[(0, .il 4 (encVs l)), (3, .sl 0 0 x.2.length), (4, .int .i64 x.1)], [(0, .row 33 4 (encVs x.2))], 1, 41⟩)
  (fun x => l.length - x.1) (0, []) [(0, 0)] ⟨by simp, by simp [sortV]⟩
  (conv_mk _ rfl ⟨⟨0, _, rfl, rfl, .nil⟩, trivial⟩ ⟨⟨_, rfl, .same _ nl⟩, ⟨_, rfl, .nslk 0 0 _ rfl rfl⟩, ⟨_, rfl, .same _ nn⟩, trivial⟩) ?_
 rintro ⟨k, out⟩ ⟨h1, h2⟩
 dsimp only at h1 h2 ⊢
 have hout : out.length ≤ k := by rw [h2]; have := sortV_length (l.take k); simp at this; omega
 have el := encVs_length out
 have hoko : ∀ a ∈ out, okV a := fun a ha => by rw [h2] at ha; exact hok a (List.mem_of_mem_take (sortV_mem ha))
 ((conv=>whnf);repeat(refine Xg ?_;conv=>whnf))
 refine bcs_mk (fun h => ?_) (fun h => ?_)
 ·have hk : k < l.length := klt h
  obtain ⟨ak, an, az, aks, hmem, hg, hv, e⟩ := enc_cases (l := l) (k := k) hk
  have hnext : sortV (l.take (k + 1)) = insV out (.mk ak an az aks) := by
   rw [List.take_succ_eq_append_getElem hk, sortV_snoc, ← h2, hv]
  have hf := rFind out (.mk ak an az aks) (by omega) hoko
  have hle := findV_le out (.mk ak an az aks)
  have hins : insV out (.mk ak an az aks) = if (findV out (.mk ak an az aks)).2 then out else out.take (findV out (.mk ak an az aks)).1 ++ .mk ak an az aks :: out.drop (findV out (.mk ak an az aks)).1 := rfl
  generalize findV out (.mk ak an az aks) = f at hf hle hins
  generalize insV out (.mk ak an az aks) = nw at hnext hins
  obtain ⟨p, b⟩ := f
  dsimp only at hle hins hf
  ((conv=>whnf);repeat(refine Xg ?_;conv=>whnf))
  refine opt_mk e ?_
  ((conv=>whnf);repeat(refine Xg ?_;conv=>whnf))
  refine hf.lend nnΓ (.cons (.fz' rfl rfl (by rw [encVs_length]; omega) (by rw [← encVs_length]; simp) (encVs_nn out)) (.cons (.same _ (encV_nn (.mk ak an az aks))) .nil)) (sc2' _ _) ?_
  cases b with
  | true =>
   ((conv=>whnf);repeat(refine Xg ?_;conv=>whnf))
   rw [if_pos rfl] at hins
   exact .mk (k + 1, out) [(0, 0)] ⟨by simp only; omega, by rw [← hins]; exact hnext.symm⟩ (conv_mk _ rfl ⟨⟨0, _, rfl, rfl, .same nns⟩, trivial⟩ ⟨⟨_, rfl, .same _ nl⟩, ⟨_, rfl, .sl 0 0 0 _ rfl⟩, ⟨_, rfl, .w64 (by simp) ⟨by omega, by omega⟩⟩, trivial⟩) (by simp only; omega)
  | false =>
   rw [if_neg (by simp)] at hins
   ((conv=>whnf);repeat(refine Xg ?_;conv=>whnf))
   repeat (first
    | (refine ⟨rfl, ?_⟩; ((conv=>whnf);repeat(refine Xg ?_;conv=>whnf)))
    | (refine opt_mk e ?_; ((conv=>whnf);repeat(refine Xg ?_;conv=>whnf)))
    | (refine grd_mk (sl_ok (by simp; try omega) (by simp; try omega) (by simp; try omega)) ?_; ((conv=>whnf);repeat(refine Xg ?_;conv=>whnf)))
    | (refine grd_mk (src_ok (by simp; try omega)) ?_; ((conv=>whnf);repeat(refine Xg ?_;conv=>whnf)))
    | (refine grd_mk (app_nil rfl (by simp; try omega)) ?_; ((conv=>whnf);repeat(refine Xg ?_;conv=>whnf)))
    | (refine grd_mk (app_ok rfl rfl (by simp; try omega) (by simp; try omega)) ?_; ((conv=>whnf);repeat(refine Xg ?_;conv=>whnf))))
   have hrow : List.take ((p : Int).toNat - 0) (List.drop (0 + 0) (encVs out)) ++ List.take 1 (List.drop 0 [AV.agg [.int .i64 ak, .int .i64 an, .str az, .il 4 (encVs aks)]]) ++ List.take (out.length - (p : Int).toNat) (List.drop (0 + (p : Int).toNat) (encVs out)) = encVs nw := by
    rw [hins]
    simp [encVs_map, encV, List.map_take, List.map_drop]
    exact List.take_of_length_le (by simp)
   exact .mk (k + 1, nw) [(19, 0)] ⟨by simp only; omega, hnext.symm⟩ (conv_mk _ rfl ⟨⟨19, _, rfl, rfl, .eq nns hrow⟩, trivial⟩ ⟨⟨_, rfl, .same _ nl⟩, ⟨_, rfl, .slE rfl (by have := congrArg List.length hrow; rw [List.length_append, List.length_append, encVs_length] at this; exact this)⟩, ⟨_, rfl, .w64 (by simp) ⟨by omega, by omega⟩⟩, trivial⟩) (by simp only; omega)
 ·have hk : k = l.length := by have := kge h; omega
  ((conv=>whnf);repeat(refine Xg ?_;conv=>whnf))
  rw [hk, List.take_length] at h2
  subst h2
  exact fin_mk (n' := 1) (m' := [(0, .row 33 4 (encVs (sortV l)))]) [(0, 0)] rfl ⟨⟨0, _, rfl, rfl, .same nns⟩, trivial⟩ (.sl 0 0 0 _ rfl) ⟨rfl, rfl, rfl⟩
theorem rSortP (l : List Val) (hl : l.length ≤ 4294967296) (hok : ∀ a ∈ l, okV a) : PureC Tryz.prog [] 122 [.il 4 (encVs l)] (.il 4 (encVs (sortV l))) := by
 refine ACalls.turn nnΓ ((rSortO l hl hok).mono ?_)
 rintro r m n ⟨rfl, rfl, rfl⟩
 exact fin_cv (.fz' rfl rfl (by rw [encVs_length]; omega) (by rw [← encVs_length]; simp) nns) ⟨rfl, rfl, rfl⟩
set_option maxHeartbeats 8000000
theorem oListLeaf (x : Nd) (bs : List Lst) (h0 : x.kind = 0) : ACalls Tryz.prog [] 100 [encN x,.sl 0 0 bs.length] [(0,.row 128 2 (encLs bs))] 1 fun r m _ => r = encL (listN x bs) ∧ m = [(0,.row 128 2 (encLs bs))] := by
 have nb : NN (.il 2 (encLs bs)) := .il' (encLs_nn bs)
 obtain ⟨kind,name,lo,hi,ws,ls,vals,kids,⟨vk,vn,vs,vks⟩⟩ := x
 simp only at h0
 subst h0
 refine acalls_go nnΓ Tryz.func100 rfl ?_
 ((conv=>whnf);repeat(refine Xg ?_;conv=>whnf))
 refine fin_mk (r' := encL ⟨[.mk vk vn vs vks],false⟩) (n' := 1) (m' := [(0,.row 128 2 (encLs bs))]) [(0,0)] rfl ⟨⟨0,_,rfl,rfl,.same (encLs_nn bs)⟩,trivial⟩ (.agg' (.cons (.fzR rfl rfl (.cons (CvE.same (x := encV (.mk vk vn vs vks)) nn) .nil) rfl) (.cons (.same _ nn) .nil))) ⟨rfl,rfl⟩
theorem oListRange (x : Nd) (bs : List Lst) (h1 : x.kind = 1) (hlo : -4611686018427387904 ≤ x.lo) (hh : x.lo ≤ x.hi) (hhi : x.hi ≤ 4611686018427387904) (hsp : x.hi < x.lo + 1099511627776) : ACalls Tryz.prog [] 100 [encN x,.sl 0 0 bs.length] [(0,.row 128 2 (encLs bs))] 1 fun r m _ => r = encL (listN x bs) ∧ m = [(0,.row 128 2 (encLs bs))] := by
 obtain ⟨kind,name,lo,hi,ws,ls,vals,kids,⟨vk,vn,vs,vks⟩⟩ := x
 simp only at h1 hlo hh hhi hsp
 subst h1
 have hres : listN ⟨1,name,lo,hi,ws,ls,vals,kids,.mk vk vn vs vks⟩ bs = if 1024 ≤ hi - lo then ⟨[],true⟩ else ⟨rangeK lo (hi + 1 - lo).toNat,false⟩ := rfl
 generalize listN ⟨1,name,lo,hi,ws,ls,vals,kids,.mk vk vn vs vks⟩ bs = res at hres
 have hw : IntKind.i64.wrap (hi - lo) = hi - lo := w64 rfl ⟨by omega,by omega⟩
 refine acalls_go nnΓ Tryz.func100 rfl ?_
 ((conv=>whnf);repeat(refine Xg ?_;conv=>whnf))
 rw [hw]
 refine bcs_mk (fun h => ?_) (fun h => ?_)
 ·((conv=>whnf);repeat(refine Xg ?_;conv=>whnf))
  exact fin_mk (r' := encL ⟨[],true⟩) (n' := 1) (m' := [(0,.row 128 2 (encLs bs))]) [(0,0)] rfl ⟨⟨0,_,rfl,rfl,.same (encLs_nn bs)⟩,trivial⟩ (.agg' (.cons (.nil 4) (.cons (.same _ nn) .nil))) ⟨by rw [hres,if_pos (by simpa using h)],rfl⟩
 ·have hlt : hi - lo < 1024 := by simpa using h
  rw [if_neg (by omega)] at hres
  ((conv=>whnf);repeat(refine Xg ?_;conv=>whnf))
  refine ALoop.ph 33 4 ?_
  refine ALoop.at nnΓ (fun k : Nat => lo + k ≤ hi + 1)
   (fun k => ⟨[(2,.ptr 1 0 0),(4,.ptr 2 0 0),(5,.ptr 3 0 0),(6,.int .i64 (lo + k))],[(0,.row 128 2 (encLs bs)),(1,.row 35 12 [encN ⟨1,name,lo,hi,ws,ls,vals,kids,.mk vk vn vs vks⟩]),(2,.row 128 2 [.agg [.nsl,.bool false]]),(3,.row 128 2 [.agg [.sl 4 0 (rangeK lo k).length,.bool false]]),(4,.row 33 4 (encVs (rangeK lo k)))],5,96⟩)
   (fun k => (hi + 1 - lo).toNat - k) 0 [(0,0),(1,1),(2,2),(3,3),(4,4)] (by omega)
   (conv_mk _ rfl ⟨⟨0,_,rfl,rfl,.same (encLs_nn bs)⟩,⟨1,_,rfl,rfl,.same (.cons (encN_nn _) .nil)⟩,⟨2,_,rfl,rfl,.same nns⟩,⟨3,_,rfl,rfl,.cons (.agg (.cons (.nslk 4 4 _ rfl rfl) (.cons (.same _ nn) .nil))) .nil⟩,⟨4,_,rfl,rfl,.nil⟩,trivial⟩ ⟨⟨_,rfl,.ptr 1 1 0 0 rfl⟩,⟨_,rfl,.ptr 2 2 0 0 rfl⟩,⟨_,rfl,.ptr 3 3 0 0 rfl⟩,⟨_,rfl,.int (by simp)⟩,trivial⟩) ?_
  intro k hk
  have hlen := rangeK_length lo k
  ((conv=>whnf);repeat(refine Xg ?_;conv=>whnf))
  refine bcs_mk (fun h => ?_) (fun h => ?_)
  ·have hkl : lo + k ≤ hi := by simpa using h
   ((conv=>whnf);repeat(refine Xg ?_;conv=>whnf))
   refine grd_mk (app_ok rfl rfl (by rw [encVs_length]) (by simp; omega)) ?_
   ((conv=>whnf);repeat(refine Xg ?_;conv=>whnf))
   exact .mk (k + 1) [(0,0),(1,1),(2,2),(3,3),(6,4)] (by omega)
    (conv_mk _ rfl ⟨⟨0,_,rfl,rfl,.same (encLs_nn bs)⟩,⟨1,_,rfl,rfl,.same (.cons (encN_nn _) .nil)⟩,⟨2,_,rfl,rfl,.same nns⟩,⟨3,_,rfl,rfl,.cons (.agg (.cons (.slE rfl (by rw [rangeK_succ]; simp)) (.cons (.same _ nn) .nil))) .nil⟩,⟨6,_,rfl,rfl,by rw [rangeK_succ,encVs_snoc]; exact .snoc rfl (.same nns) (cvVal _ _ _)⟩,trivial⟩ ⟨⟨_,rfl,.ptr 1 1 0 0 rfl⟩,⟨_,rfl,.ptr 2 2 0 0 rfl⟩,⟨_,rfl,.ptr 3 3 0 0 rfl⟩,⟨_,rfl,.w64 (by omega) ⟨by omega,by omega⟩⟩,trivial⟩) (by omega)
  ·have hke : k = (hi + 1 - lo).toNat := by simp at h; omega
   ((conv=>whnf);repeat(refine Xg ?_;conv=>whnf))
   exact fin_mk (r' := encL ⟨rangeK lo k,false⟩) (n' := 1) (m' := [(0,.row 128 2 (encLs bs))]) [(0,0)] rfl ⟨⟨0,_,rfl,rfl,.same (encLs_nn bs)⟩,trivial⟩ (.agg' (.cons (.fzR rfl rfl (.same nns) (by rw [encVs_length])) (.cons (.same _ nn) .nil))) ⟨by rw [hres,hke],rfl⟩
set_option maxHeartbeats 8000000
theorem oListUni2 (x : Nd) (bs : List Lst) (h2 : x.kind = 2) (hkl : x.kids.length ≤ 65536) (hk : ∀ (j : Nat) (k : Int),x.kids[j]? = some k → 0 ≤ k ∧ k < bs.length) (hb : ∀ b ∈ bs,b.vals.length ≤ 1024 ∧ ∀ v ∈ b.vals,okV v) :
  ACalls Tryz.prog [] 100 [encN x,.sl 0 0 bs.length] [(0,.row 128 2 (encLs bs))] 1 fun r m _ => r = encL (listN x bs) ∧ m = [(0,.row 128 2 (encLs bs))] := by
 have nb : NN (.il 2 (encLs bs)) := .il' (encLs_nn bs)
 obtain ⟨kind,name,lo,hi,ws,ls,vals,kids,⟨vk,vn,vs,vks⟩⟩ := x
 simp only at h2 hkl hk
 subst h2
 have hres : listN ⟨2,name,lo,hi,ws,ls,vals,kids,.mk vk vn vs vks⟩ bs = uniL bs kids := rfl
 generalize listN ⟨2,name,lo,hi,ws,ls,vals,kids,.mk vk vn vs vks⟩ bs = res at hres
 refine acalls_go nnΓ Tryz.func100 rfl ?_
 ((conv=>whnf);repeat(refine Xg ?_;conv=>whnf))
 refine ALoop.ph 33 4 ?_
 refine ALoop.at nnΓ (fun a : Nat × (List Val × Bool) => a.1 ≤ kids.length ∧ a.2 = (kids.take a.1).foldl (uniStep bs) ([],false))
  (fun a => ⟨[(1,.sl 0 0 bs.length),(2,.ptr 1 0 0),(4,.ptr 2 0 0),(5,.ptr 3 0 0),(7,.int .i64 a.1)],[(0,.row 128 2 (encLs bs)),(1,.row 35 12 [encN ⟨2,name,lo,hi,ws,ls,vals,kids,.mk vk vn vs vks⟩]),(2,.row 128 2 [.agg [.nsl,.bool false]]),(3,.row 128 2 [.agg [.sl 4 0 a.2.1.length,.bool a.2.2]]),(4,.row 33 4 (encVs a.2.1))],5,96⟩)
  (fun a => kids.length - a.1) (0,[],false) [(0,0),(1,1),(2,2),(3,3),(4,4)] ⟨by simp,by simp⟩
  (conv_mk _ rfl ⟨⟨0,_,rfl,rfl,.same (encLs_nn bs)⟩,⟨1,_,rfl,rfl,.same (.cons (encN_nn _) .nil)⟩,⟨2,_,rfl,rfl,.same nns⟩,⟨3,_,rfl,rfl,.cons (.agg (.cons (.nslk 4 4 _ rfl rfl) (.cons (.same _ nn) .nil))) .nil⟩,⟨4,_,rfl,rfl,.nil⟩,trivial⟩ ⟨⟨_,rfl,.sl 0 0 0 _ rfl⟩,⟨_,rfl,.ptr 1 1 0 0 rfl⟩,⟨_,rfl,.ptr 2 2 0 0 rfl⟩,⟨_,rfl,.ptr 3 3 0 0 rfl⟩,⟨_,rfl,.int rfl⟩,trivial⟩) ?_
 rintro ⟨k,a1,am⟩ ⟨hkk,ha⟩
 simp only at hkk ha
 have hbd := uni_bound hb (kids.take k) ([],false) 0 (by simp) (by simp)
 rw [← ha] at hbd
 simp only at hbd
 have hlk : (kids.take k).length ≤ 65536 := by simp; omega
 have ha1 : a1.length ≤ 67108864 := by omega
 ((conv=>whnf);repeat(refine Xg ?_;conv=>whnf))
 refine bcs_mk (fun h => ?_) (fun h => ?_)
 ·have hlt : k < kids.length := by rw [encI_length] at h; simpa using h
  have e1 : (encI kids)[(k : Int).toNat]? = some (.int .i64 kids[k]) := by rw [Int.toNat_natCast,encI_get,List.getElem?_eq_getElem hlt]; rfl
  have hg : kids[k]? = some kids[k] := List.getElem?_eq_getElem hlt
  have hstep := foldl_take (uniStep bs) hlt ([],false)
  rw [← ha] at hstep
  generalize kids[k] = q at e1 hg hstep
  obtain ⟨q1,q2⟩ := hk k q hg
  obtain ⟨qn,rfl⟩ := Int.eq_ofNat_of_zero_le q1
  have hqn : qn < bs.length := by omega
  obtain ⟨⟨bv,bm⟩,hbe⟩ : ∃ b,b = bs[qn] := ⟨_,rfl⟩
  have hbm := hb _ (show (⟨bv,bm⟩ : Lst) ∈ bs by rw [hbe]; exact List.getElem_mem hqn)
  simp only at hbm
  have hat : atL bs qn = ⟨bv,bm⟩ := by rw [hbe]; simp [atL,hqn]
  have bq : Nat.blt (qn : Int).toNat bs.length = true := Nat.ble_eq_true_of_le (by simp; omega)
  have e2 : (encLs bs)[0 + (qn : Int).toNat]? = some (encL ⟨bv,bm⟩) := by rw [Nat.zero_add,Int.toNat_natCast,encLs_get,List.getElem?_eq_getElem hqn,← hbe]; rfl
  have hso := rSortO (a1 ++ bv) (by simp; omega) (fun v hv => by
   rcases List.mem_append.1 hv with h | h
   ·exact hbd.2 v h
   ·exact hbm.2 v h)
  have hun : uniStep bs (a1,am) qn = (sortV (a1 ++ bv),am || bm || decide (1024 < (sortV (a1 ++ bv)).length)) := by simp [uniStep,hat]
  rw [hun] at hstep
  generalize sortV (a1 ++ bv) = sv at hso hstep
  ((conv=>whnf);repeat(refine Xg ?_;conv=>whnf))
  refine opt_mk e1 ?_
  ((conv=>whnf);repeat(refine Xg ?_;conv=>whnf))
  repeat ((first | refine grd_mk bq ?_ | refine opt_mk e2 ?_); ((conv=>whnf);repeat(refine Xg ?_;conv=>whnf)))
  refine grd_mk (app_ok rfl rfl (by rw [encVs_length]) (by simp [encVs_length]; omega)) ?_
  ((conv=>whnf);repeat(refine Xg ?_;conv=>whnf))
  refine ACalls.pre nnΓ [(5,5),(0,0),(1,1),(2,2),(3,3)] (mem' := [(5,.row 128 2 [.agg [.il 4 (encVs bv),.bool bm]]),(0,.row 128 2 (encLs bs)),(1,.row 35 12 [encN ⟨2,name,lo,hi,ws,ls,vals,kids,.mk vk vn vs vks⟩]),(2,.row 128 2 [.agg [.nsl,.bool false]]),(3,.row 128 2 [.agg [.junk,.bool am]])]) rfl
   ⟨⟨5,_,rfl,rfl,.same nns⟩,⟨0,_,rfl,rfl,.same (encLs_nn bs)⟩,⟨1,_,rfl,rfl,.same (.cons (encN_nn _) .nil)⟩,⟨2,_,rfl,rfl,.same nns⟩,⟨3,_,rfl,rfl,.cons (.agg (.cons (.junk _) (.cons (.same _ nn) .nil))) .nil⟩,trivial⟩
   (.cons (.fzR (ys := encVs (a1 ++ bv)) rfl rfl (.eq nns (by simp [encVs_map])) (by simp [encVs_length])) .nil) ?_
  refine ACalls.useNew nnΓ hso nns nns ?_
  cases am <;> cases bm
  all_goals
   ((conv=>whnf);repeat(refine Xg ?_;conv=>whnf))
   exact .mk (k + 1,sv,_) [(0,0),(1,1),(2,2),(3,3),(7,4)] ⟨by simp only; omega,hstep.symm⟩
    (conv_mk _ rfl ⟨⟨0,_,rfl,rfl,.same (encLs_nn bs)⟩,⟨1,_,rfl,rfl,.same (.cons (encN_nn _) .nil)⟩,⟨2,_,rfl,rfl,.same nns⟩,⟨3,_,rfl,rfl,.cons (.agg (.cons (.sl 7 4 0 _ rfl) (.cons (.bool (by simp [decide_eq_decide] <;> omega)) .nil))) .nil⟩,⟨7,_,rfl,rfl,.same nns⟩,trivial⟩
     ⟨⟨_,rfl,.sl 0 0 0 _ rfl⟩,⟨_,rfl,.ptr 1 1 0 0 rfl⟩,⟨_,rfl,.ptr 2 2 0 0 rfl⟩,⟨_,rfl,.ptr 3 3 0 0 rfl⟩,⟨_,rfl,.w64 (by simp) ⟨by simp only; omega,by simp only; omega⟩⟩,trivial⟩) (by simp only; omega)
 ·have hke : k = kids.length := by rw [encI_length] at h; simp at h; omega
  rw [hke,List.take_length] at ha
  have hu : uniL bs kids = if am then ⟨[],true⟩ else ⟨a1,false⟩ := by
   unfold uniL
   rw [← ha]
  cases am with
  | true =>
   ((conv=>whnf);repeat(refine Xg ?_;conv=>whnf))
   exact fin_mk (r' := encL ⟨[],true⟩) (n' := 1) (m' := [(0,.row 128 2 (encLs bs))]) [(0,0)] rfl ⟨⟨0,_,rfl,rfl,.same (encLs_nn bs)⟩,trivial⟩ (.agg' (.cons (.nil 4) (.cons (.same _ nn) .nil))) ⟨by rw [hres,hu,if_pos rfl],rfl⟩
  | false =>
   ((conv=>whnf);repeat(refine Xg ?_;conv=>whnf))
   exact fin_mk (r' := encL ⟨a1,false⟩) (n' := 1) (m' := [(0,.row 128 2 (encLs bs))]) [(0,0)] rfl ⟨⟨0,_,rfl,rfl,.same (encLs_nn bs)⟩,trivial⟩ (.agg' (.cons (.fzR rfl rfl (.same nns) (by rw [encVs_length])) (.cons (.same _ nn) .nil))) ⟨by rw [hres,hu,if_neg (by simp)],rfl⟩
set_option maxHeartbeats 8000000
theorem oListUni4 (x : Nd) (bs : List Lst) (h2 : x.kind = 4) (hkl : x.kids.length ≤ 65536) (hk : ∀ (j : Nat) (k : Int),x.kids[j]? = some k → 0 ≤ k ∧ k < bs.length) (hb : ∀ b ∈ bs,b.vals.length ≤ 1024 ∧ ∀ v ∈ b.vals,okV v) :
  ACalls Tryz.prog [] 100 [encN x,.sl 0 0 bs.length] [(0,.row 128 2 (encLs bs))] 1 fun r m _ => r = encL (listN x bs) ∧ m = [(0,.row 128 2 (encLs bs))] := by
 have nb : NN (.il 2 (encLs bs)) := .il' (encLs_nn bs)
 obtain ⟨kind,name,lo,hi,ws,ls,vals,kids,⟨vk,vn,vs,vks⟩⟩ := x
 simp only at h2 hkl hk
 subst h2
 have hres : listN ⟨4,name,lo,hi,ws,ls,vals,kids,.mk vk vn vs vks⟩ bs = uniL bs (kids.drop 1) := rfl
 generalize listN ⟨4,name,lo,hi,ws,ls,vals,kids,.mk vk vn vs vks⟩ bs = res at hres
 refine acalls_go nnΓ Tryz.func100 rfl ?_
 ((conv=>whnf);repeat(refine Xg ?_;conv=>whnf))
 refine ALoop.ph 33 4 ?_
 refine ALoop.at nnΓ (fun a : Nat × (List Val × Bool) => a.1 ≤ kids.length ∧ a.2 = ((kids.take a.1).drop 1).foldl (uniStep bs) ([],false))
  (fun a => ⟨[(1,.sl 0 0 bs.length),(2,.ptr 1 0 0),(4,.ptr 2 0 0),(5,.ptr 3 0 0),(7,.int .i64 a.1)],[(0,.row 128 2 (encLs bs)),(1,.row 35 12 [encN ⟨4,name,lo,hi,ws,ls,vals,kids,.mk vk vn vs vks⟩]),(2,.row 128 2 [.agg [.nsl,.bool false]]),(3,.row 128 2 [.agg [.sl 4 0 a.2.1.length,.bool a.2.2]]),(4,.row 33 4 (encVs a.2.1))],5,96⟩)
  (fun a => kids.length - a.1) (0,[],false) [(0,0),(1,1),(2,2),(3,3),(4,4)] ⟨by simp,by simp⟩
  (conv_mk _ rfl ⟨⟨0,_,rfl,rfl,.same (encLs_nn bs)⟩,⟨1,_,rfl,rfl,.same (.cons (encN_nn _) .nil)⟩,⟨2,_,rfl,rfl,.same nns⟩,⟨3,_,rfl,rfl,.cons (.agg (.cons (.nslk 4 4 _ rfl rfl) (.cons (.same _ nn) .nil))) .nil⟩,⟨4,_,rfl,rfl,.nil⟩,trivial⟩ ⟨⟨_,rfl,.sl 0 0 0 _ rfl⟩,⟨_,rfl,.ptr 1 1 0 0 rfl⟩,⟨_,rfl,.ptr 2 2 0 0 rfl⟩,⟨_,rfl,.ptr 3 3 0 0 rfl⟩,⟨_,rfl,.int rfl⟩,trivial⟩) ?_
 rintro ⟨k,a1,am⟩ ⟨hkk,ha⟩
 simp only at hkk ha
 have hbd := uni_bound hb ((kids.take k).drop 1) ([],false) 0 (by simp) (by simp)
 rw [← ha] at hbd
 simp only at hbd
 have hlk : ((kids.take k).drop 1).length ≤ 65536 := by simp; omega
 have ha1 : a1.length ≤ 67108864 := by omega
 ((conv=>whnf);repeat(refine Xg ?_;conv=>whnf))
 refine bcs_mk (fun h => ?_) (fun h => ?_)
 ·have hlt : k < kids.length := by rw [encI_length] at h; simpa using h
  have e1 : (encI kids)[(k : Int).toNat]? = some (.int .i64 kids[k]) := by rw [Int.toNat_natCast,encI_get,List.getElem?_eq_getElem hlt]; rfl
  have hg : kids[k]? = some kids[k] := List.getElem?_eq_getElem hlt
  ((conv=>whnf);repeat(refine Xg ?_;conv=>whnf))
  refine bcs_mk (fun h => ?_) (fun h => ?_)
  ·have hk0 : k = 0 := by simp at h; omega
   subst hk0
   ((conv=>whnf);repeat(refine Xg ?_;conv=>whnf))
   exact .mk (1,a1,am) [(0,0),(1,1),(2,2),(3,3),(4,4)] ⟨by simp only; omega,by rw [ha]; cases kids <;> simp⟩
    (conv_mk _ rfl ⟨⟨0,_,rfl,rfl,.same (encLs_nn bs)⟩,⟨1,_,rfl,rfl,.same (.cons (encN_nn _) .nil)⟩,⟨2,_,rfl,rfl,.same nns⟩,⟨3,_,rfl,rfl,.cons (.agg (.cons (.sl 4 4 0 _ rfl) (.cons (.same _ nn) .nil))) .nil⟩,⟨4,_,rfl,rfl,.same nns⟩,trivial⟩ ⟨⟨_,rfl,.sl 0 0 0 _ rfl⟩,⟨_,rfl,.ptr 1 1 0 0 rfl⟩,⟨_,rfl,.ptr 2 2 0 0 rfl⟩,⟨_,rfl,.ptr 3 3 0 0 rfl⟩,⟨_,rfl,.int rfl⟩,trivial⟩) (by simp only; omega)
  have hk0 : 0 < k := by
   rcases Nat.eq_zero_or_pos k with h' | h'
   ·rw [h'] at h; simp at h
   ·exact h'
  have hstep := foldl_drop (uniStep bs) hlt hk0 ([],false)
  rw [← ha] at hstep
  generalize kids[k] = q at e1 hg hstep
  obtain ⟨q1,q2⟩ := hk k q hg
  obtain ⟨qn,rfl⟩ := Int.eq_ofNat_of_zero_le q1
  have hqn : qn < bs.length := by omega
  obtain ⟨⟨bv,bm⟩,hbe⟩ : ∃ b,b = bs[qn] := ⟨_,rfl⟩
  have hbm := hb _ (show (⟨bv,bm⟩ : Lst) ∈ bs by rw [hbe]; exact List.getElem_mem hqn)
  simp only at hbm
  have hat : atL bs qn = ⟨bv,bm⟩ := by rw [hbe]; simp [atL,hqn]
  have bq : Nat.blt (qn : Int).toNat bs.length = true := Nat.ble_eq_true_of_le (by simp; omega)
  have e2 : (encLs bs)[0 + (qn : Int).toNat]? = some (encL ⟨bv,bm⟩) := by rw [Nat.zero_add,Int.toNat_natCast,encLs_get,List.getElem?_eq_getElem hqn,← hbe]; rfl
  have hso := rSortO (a1 ++ bv) (by simp; omega) (fun v hv => by
   rcases List.mem_append.1 hv with h | h
   ·exact hbd.2 v h
   ·exact hbm.2 v h)
  have hun : uniStep bs (a1,am) qn = (sortV (a1 ++ bv),am || bm || decide (1024 < (sortV (a1 ++ bv)).length)) := by simp [uniStep,hat]
  rw [hun] at hstep
  generalize sortV (a1 ++ bv) = sv at hso hstep
  ((conv=>whnf);repeat(refine Xg ?_;conv=>whnf))
  refine opt_mk e1 ?_
  ((conv=>whnf);repeat(refine Xg ?_;conv=>whnf))
  repeat ((first | refine grd_mk bq ?_ | refine opt_mk e2 ?_); ((conv=>whnf);repeat(refine Xg ?_;conv=>whnf)))
  refine grd_mk (app_ok rfl rfl (by rw [encVs_length]) (by simp [encVs_length]; omega)) ?_
  ((conv=>whnf);repeat(refine Xg ?_;conv=>whnf))
  refine ACalls.pre nnΓ [(5,5),(0,0),(1,1),(2,2),(3,3)] (mem' := [(5,.row 128 2 [.agg [.il 4 (encVs bv),.bool bm]]),(0,.row 128 2 (encLs bs)),(1,.row 35 12 [encN ⟨4,name,lo,hi,ws,ls,vals,kids,.mk vk vn vs vks⟩]),(2,.row 128 2 [.agg [.nsl,.bool false]]),(3,.row 128 2 [.agg [.junk,.bool am]])]) rfl
   ⟨⟨5,_,rfl,rfl,.same nns⟩,⟨0,_,rfl,rfl,.same (encLs_nn bs)⟩,⟨1,_,rfl,rfl,.same (.cons (encN_nn _) .nil)⟩,⟨2,_,rfl,rfl,.same nns⟩,⟨3,_,rfl,rfl,.cons (.agg (.cons (.junk _) (.cons (.same _ nn) .nil))) .nil⟩,trivial⟩
   (.cons (.fzR (ys := encVs (a1 ++ bv)) rfl rfl (.eq nns (by simp [encVs_map])) (by simp [encVs_length])) .nil) ?_
  refine ACalls.useNew nnΓ hso nns nns ?_
  cases am <;> cases bm
  all_goals
   ((conv=>whnf);repeat(refine Xg ?_;conv=>whnf))
   exact .mk (k + 1,sv,_) [(0,0),(1,1),(2,2),(3,3),(7,4)] ⟨by simp only; omega,hstep.symm⟩
    (conv_mk _ rfl ⟨⟨0,_,rfl,rfl,.same (encLs_nn bs)⟩,⟨1,_,rfl,rfl,.same (.cons (encN_nn _) .nil)⟩,⟨2,_,rfl,rfl,.same nns⟩,⟨3,_,rfl,rfl,.cons (.agg (.cons (.sl 7 4 0 _ rfl) (.cons (.bool (by simp [decide_eq_decide] <;> omega)) .nil))) .nil⟩,⟨7,_,rfl,rfl,.same nns⟩,trivial⟩
     ⟨⟨_,rfl,.sl 0 0 0 _ rfl⟩,⟨_,rfl,.ptr 1 1 0 0 rfl⟩,⟨_,rfl,.ptr 2 2 0 0 rfl⟩,⟨_,rfl,.ptr 3 3 0 0 rfl⟩,⟨_,rfl,.w64 (by simp) ⟨by simp only; omega,by simp only; omega⟩⟩,trivial⟩) (by simp only; omega)
 ·have hke : k = kids.length := by rw [encI_length] at h; simp at h; omega
  rw [hke,List.take_length] at ha
  have hu : uniL bs (kids.drop 1) = if am then ⟨[],true⟩ else ⟨a1,false⟩ := by
   unfold uniL
   rw [← ha]
  cases am with
  | true =>
   ((conv=>whnf);repeat(refine Xg ?_;conv=>whnf))
   exact fin_mk (r' := encL ⟨[],true⟩) (n' := 1) (m' := [(0,.row 128 2 (encLs bs))]) [(0,0)] rfl ⟨⟨0,_,rfl,rfl,.same (encLs_nn bs)⟩,trivial⟩ (.agg' (.cons (.nil 4) (.cons (.same _ nn) .nil))) ⟨by rw [hres,hu,if_pos rfl],rfl⟩
  | false =>
   ((conv=>whnf);repeat(refine Xg ?_;conv=>whnf))
   exact fin_mk (r' := encL ⟨a1,false⟩) (n' := 1) (m' := [(0,.row 128 2 (encLs bs))]) [(0,0)] rfl ⟨⟨0,_,rfl,rfl,.same (encLs_nn bs)⟩,trivial⟩ (.agg' (.cons (.fzR rfl rfl (.same nns) (by rw [encVs_length])) (.cons (.same _ nn) .nil))) ⟨by rw [hres,hu,if_neg (by simp)],rfl⟩
set_option maxHeartbeats 8000000
def encRs (l : List (List Val)) : List AV := l.map fun r => .il 4 (encVs r)
theorem encRs_nn (l : List (List Val)) : NNs (encRs l) := fun a ha => by
 obtain ⟨n,_,rfl⟩ := List.mem_map.1 ha
 exact nn
theorem rowsX_length (l : List Val) : ∀ rows : List (List Val),(rowsX rows l).length = rows.length * l.length
 | [] => by simp [rowsX]
 | r :: rs => by
  have := rowsX_length l rs
  simp only [rowsX,List.flatMap_cons,List.length_append,List.length_map,List.length_cons,Nat.add_mul,Nat.one_mul] at this ⊢
  omega
theorem encRs_snoc (l : List (List Val)) (r : List Val) : encRs (l ++ [r]) = encRs l ++ [.il 4 (encVs r)] := by simp [encRs]
theorem encRs_length (l : List (List Val)) : (encRs l).length = l.length := by simp [encRs]
theorem madeV_ok {name : List UInt8} (hn : name.length ≤ 4294967296) {r : List Val} (hr : r.length ≤ 4294967296) (ho : ∀ v ∈ r,okV v) : okV (madeV name r) := by
 unfold madeV
 split
 ·exact okV_list ⟨by omega,by omega⟩ ⟨by omega,by omega⟩ (by simp) hr (okVs_of ho)
 ·exact okV_list ⟨by omega,by omega⟩ ⟨by omega,by omega⟩ hn hr (okVs_of ho)
theorem oSeq (x : Nd) (bs : List Lst) (hname : x.name.length ≤ 4294967296) (hkl : x.kids.length ≤ 65536) (hk : ∀ (j : Nat) (k : Int),x.kids[j]? = some k → 0 ≤ k ∧ k < bs.length) (hb : ∀ b ∈ bs,b.vals.length ≤ 1024 ∧ ∀ v ∈ b.vals,okV v) :
  ACalls Tryz.prog [] 121 [encN x,.sl 0 0 bs.length] [(0,.row 128 2 (encLs bs))] 1 fun r m _ => r = encL (seqL bs x) ∧ m = [(0,.row 128 2 (encLs bs))] := by
 obtain ⟨kind,name,lo,hi,ws,ls,vals,kids,⟨vk,vn,vs,vks⟩⟩ := x
 simp only at hkl hk hname
 refine acalls_go nnΓ Tryz.func121 rfl ?_
 ((conv=>whnf);repeat(refine Xg ?_;conv=>whnf))
 refine ALoop.at nnΓ (fun a : Nat × List (List Val) => a.1 ≤ kids.length ∧ a.2.length ≤ 1024 ∧ (∀ r ∈ a.2,r.length ≤ a.1 ∧ ∀ v ∈ r,okV v) ∧ rowsL bs kids [[]] = rowsL bs (kids.drop a.1) a.2)
  (fun a => ⟨[(1,.sl 0 0 bs.length),(2,.ptr 1 0 0),(4,.ptr 2 0 0),(5,.sl 3 0 a.2.length),(6,.int .i64 a.1)],[(0,.row 128 2 (encLs bs)),(1,.row 35 12 [encN ⟨kind,name,lo,hi,ws,ls,vals,kids,.mk vk vn vs vks⟩]),(2,.row 128 2 [.agg [.nsl,.bool false]]),(3,.row 31 1 (encRs a.2))],4,91⟩)
  (fun a => kids.length - a.1) (0,[[]]) [(0,0),(1,1),(2,2),(3,3)] ⟨by simp,by simp,by simp,by simp⟩
  (conv_mk _ rfl ⟨⟨0,_,rfl,rfl,.same (encLs_nn bs)⟩,⟨1,_,rfl,rfl,.same (.cons (encN_nn _) .nil)⟩,⟨2,_,rfl,rfl,.same nns⟩,⟨3,_,rfl,rfl,.cons (.one rfl rfl (.nil 4)) .nil⟩,trivial⟩ ⟨⟨_,rfl,.sl 0 0 0 _ rfl⟩,⟨_,rfl,.ptr 1 1 0 0 rfl⟩,⟨_,rfl,.ptr 2 2 0 0 rfl⟩,⟨_,rfl,.sl 3 3 0 _ rfl⟩,⟨_,rfl,.int rfl⟩,trivial⟩) ?_
 rintro ⟨k,rows⟩ ⟨hkk,hrl,hrr,hro⟩
 simp only at hkk hrl hrr hro
 have hseq : seqL bs ⟨kind,name,lo,hi,ws,ls,vals,kids,.mk vk vn vs vks⟩ = match rowsL bs kids [[]] with | none => ⟨[],true⟩ | some rows => ⟨sortV (rows.map (madeV name)),false⟩ := rfl
 ((conv=>whnf);repeat(refine Xg ?_;conv=>whnf))
 refine bcs_mk (fun h => ?_) (fun h => ?_)
 ·have hlt : k < kids.length := by rw [encI_length] at h; simpa using h
  have e1 : (encI kids)[(k : Int).toNat]? = some (.int .i64 kids[k]) := by rw [Int.toNat_natCast,encI_get,List.getElem?_eq_getElem hlt]; rfl
  have hg : kids[k]? = some kids[k] := List.getElem?_eq_getElem hlt
  rw [List.drop_eq_getElem_cons hlt,rowsL] at hro
  generalize kids[k] = q at e1 hg hro
  obtain ⟨q1,q2⟩ := hk k q hg
  obtain ⟨qn,rfl⟩ := Int.eq_ofNat_of_zero_le q1
  have hqn : qn < bs.length := by omega
  obtain ⟨⟨bv,bm⟩,hbe⟩ : ∃ b,b = bs[qn] := ⟨_,rfl⟩
  have hbm := hb _ (show (⟨bv,bm⟩ : Lst) ∈ bs by rw [hbe]; exact List.getElem_mem hqn)
  simp only at hbm
  have hat : atL bs qn = ⟨bv,bm⟩ := by rw [hbe]; simp [atL,hqn]
  rw [hat] at hro
  simp only at hro
  have bq : Nat.blt (qn : Int).toNat bs.length = true := Nat.ble_eq_true_of_le (by simp; omega)
  have e2 : (encLs bs)[0 + (qn : Int).toNat]? = some (encL ⟨bv,bm⟩) := by rw [Nat.zero_add,Int.toNat_natCast,encLs_get,List.getElem?_eq_getElem hqn,← hbe]; rfl
  ((conv=>whnf);repeat(refine Xg ?_;conv=>whnf))
  refine opt_mk e1 ?_
  ((conv=>whnf);repeat(refine Xg ?_;conv=>whnf))
  repeat ((first | refine grd_mk bq ?_ | refine opt_mk e2 ?_); ((conv=>whnf);repeat(refine Xg ?_;conv=>whnf)))
  cases bm with
  | true =>
   ((conv=>whnf);repeat(refine Xg ?_;conv=>whnf))
   exact fin_mk (r' := encL ⟨[],true⟩) (n' := 1) (m' := [(0,.row 128 2 (encLs bs))]) [(0,0)] rfl ⟨⟨0,_,rfl,rfl,.same (encLs_nn bs)⟩,trivial⟩ (.agg' (.cons (.nil 4) (.cons (.same _ nn) .nil))) ⟨by rw [hseq,hro,if_pos (.inl rfl)],rfl⟩
  | false =>
   ((conv=>whnf);repeat(refine Xg ?_;conv=>whnf))
   have hmul : IntKind.i64.wrap ((rows.length : Int) * ((encVs bv).length : Nat)) = ((rows.length * bv.length : Nat) : Int) := by
    have hm : rows.length * bv.length ≤ 1024 * 1024 := Nat.mul_le_mul hrl hbm.1
    rw [encVs_length]
    exact w64 (by push_cast; rfl) ⟨by omega,by omega⟩
   rw [hmul]
   refine bcs_mk (fun h => ?_) (fun h => ?_)
   ·((conv=>whnf);repeat(refine Xg ?_;conv=>whnf))
    exact fin_mk (r' := encL ⟨[],true⟩) (n' := 1) (m' := [(0,.row 128 2 (encLs bs))]) [(0,0)] rfl ⟨⟨0,_,rfl,rfl,.same (encLs_nn bs)⟩,trivial⟩ (.agg' (.cons (.nil 4) (.cons (.same _ nn) .nil))) ⟨by rw [hseq,hro,if_pos (.inr (by simp only [gt_iff_lt,decide_eq_true_eq] at h; omega))],rfl⟩
   ·have hle : rows.length * bv.length ≤ 1024 := by simp only [gt_iff_lt,decide_eq_false_iff_not] at h; omega
    rw [if_neg (by simp; omega)] at hro
    ((conv=>whnf);repeat(refine Xg ?_;conv=>whnf))
    refine ALoop.ph 31 1 ?_
    refine ALoop.at nnΓ (fun i : Nat => i ≤ rows.length)
     (fun i => ⟨[(1,.sl 0 0 bs.length),(2,.ptr 1 0 0),(4,.ptr 2 0 0),(5,.sl 3 0 rows.length),(6,.int .i64 k),(7,.ptr 4 0 0),(8,.sl 5 0 (rowsX (rows.take i) bv).length),(9,.int .i64 i)],[(0,.row 128 2 (encLs bs)),(1,.row 35 12 [encN ⟨kind,name,lo,hi,ws,ls,vals,kids,.mk vk vn vs vks⟩]),(2,.row 128 2 [.agg [.nsl,.bool false]]),(3,.row 31 1 (encRs rows)),(4,.row 128 2 [encL ⟨bv,false⟩]),(5,.row 31 1 (encRs (rowsX (rows.take i) bv)))],6,91⟩)
     (fun i => rows.length - i) 0 [(0,0),(1,1),(2,2),(3,3),(4,4),(5,5)] (by simp)
     (conv_mk _ rfl ⟨⟨0,_,rfl,rfl,.same (encLs_nn bs)⟩,⟨1,_,rfl,rfl,.same (.cons (encN_nn _) .nil)⟩,⟨2,_,rfl,rfl,.same nns⟩,⟨3,_,rfl,rfl,.same (encRs_nn _)⟩,⟨4,_,rfl,rfl,.same (.cons (encL_nn _) .nil)⟩,⟨5,_,rfl,rfl,.nil⟩,trivial⟩ ⟨⟨_,rfl,.sl 0 0 0 _ rfl⟩,⟨_,rfl,.ptr 1 1 0 0 rfl⟩,⟨_,rfl,.ptr 2 2 0 0 rfl⟩,⟨_,rfl,.sl 3 3 0 _ rfl⟩,⟨_,rfl,.int rfl⟩,⟨_,rfl,.ptr 4 4 0 0 rfl⟩,⟨_,rfl,.nslk 5 5 _ rfl rfl⟩,⟨_,rfl,.int rfl⟩,trivial⟩) ?_
    intro i hi0
    ((conv=>whnf);repeat(refine Xg ?_;conv=>whnf))
    refine bcs_mk (fun h => ?_) (fun h => ?_)
    ·have hir : i < rows.length := by simpa using h
     obtain ⟨rw,hrw⟩ : ∃ rw,rw = rows[i] := ⟨_,rfl⟩
     have hrl2 := (hrr rw (by rw [hrw]; exact List.getElem_mem hir)).1
     have e3 : (encRs rows)[0 + (i : Int).toNat]? = some (.il 4 (encVs rw)) := by rw [Nat.zero_add,Int.toNat_natCast,encRs,List.getElem?_map,List.getElem?_eq_getElem hir,hrw]; rfl
     have b3 : Nat.blt (i : Int).toNat rows.length = true := Nat.ble_eq_true_of_le (by simp; omega)
     ((conv=>whnf);repeat(refine Xg ?_;conv=>whnf))
     refine ALoop.at nnΓ (fun j : Nat => j ≤ bv.length)
      (fun j => ⟨[(1,.sl 0 0 bs.length),(2,.ptr 1 0 0),(4,.ptr 2 0 0),(5,.sl 3 0 rows.length),(6,.int .i64 k),(7,.ptr 4 0 0),(8,.sl 5 0 (rowsX (rows.take i) bv ++ (bv.take j).map fun v => rw ++ [v]).length),(9,.int .i64 i),(10,.int .i64 j)],[(0,.row 128 2 (encLs bs)),(1,.row 35 12 [encN ⟨kind,name,lo,hi,ws,ls,vals,kids,.mk vk vn vs vks⟩]),(2,.row 128 2 [.agg [.nsl,.bool false]]),(3,.row 31 1 (encRs rows)),(4,.row 128 2 [encL ⟨bv,false⟩]),(5,.row 31 1 (encRs (rowsX (rows.take i) bv ++ (bv.take j).map fun v => rw ++ [v])))],6,91⟩)
      (fun j => bv.length - j) 0 [(0,0),(1,1),(2,2),(3,3),(4,4),(5,5)] (by simp)
      (conv_mk _ rfl ⟨⟨0,_,rfl,rfl,.same (encLs_nn bs)⟩,⟨1,_,rfl,rfl,.same (.cons (encN_nn _) .nil)⟩,⟨2,_,rfl,rfl,.same nns⟩,⟨3,_,rfl,rfl,.same (encRs_nn _)⟩,⟨4,_,rfl,rfl,.same (.cons (encL_nn _) .nil)⟩,⟨5,_,rfl,rfl,.eq (encRs_nn _) (by simp)⟩,trivial⟩ ⟨⟨_,rfl,.sl 0 0 0 _ rfl⟩,⟨_,rfl,.ptr 1 1 0 0 rfl⟩,⟨_,rfl,.ptr 2 2 0 0 rfl⟩,⟨_,rfl,.sl 3 3 0 _ rfl⟩,⟨_,rfl,.int rfl⟩,⟨_,rfl,.ptr 4 4 0 0 rfl⟩,⟨_,rfl,.slE rfl (by simp)⟩,⟨_,rfl,.int rfl⟩,⟨_,rfl,.int rfl⟩,trivial⟩) ?_
     intro j hj
     have hX : (rowsX (rows.take i) bv).length ≤ 1048576 := by
      rw [rowsX_length]
      exact Nat.le_trans (Nat.mul_le_mul (show (rows.take i).length ≤ 1024 by simp; omega) hbm.1) (by omega)
     ((conv=>whnf);repeat(refine Xg ?_;conv=>whnf))
     refine bcs_mk (fun h => ?_) (fun h => ?_)
     ·have hjl : j < bv.length := klt h
      obtain ⟨p1,p2,p3,p4,pm,pg,pe,ep⟩ := enc_cases (l := bv) (k := j) hjl
      have hL : rowsX (rows.take i) bv ++ ((bv.take (j + 1)).map fun v => rw ++ [v]) = (rowsX (rows.take i) bv ++ (bv.take j).map fun v => rw ++ [v]) ++ [rw ++ [.mk p1 p2 p3 p4]] := by
       rw [List.take_succ_eq_append_getElem hjl,pe]; simp
      ((conv=>whnf);repeat(refine Xg ?_;conv=>whnf))
      repeat ((first | refine grd_mk b3 ?_ | refine opt_mk e3 ?_); ((conv=>whnf);repeat(refine Xg ?_;conv=>whnf)))
      refine grd_mk (app_nil rfl (by rw [encVs_length]; omega)) ?_
      ((conv=>whnf);repeat(refine Xg ?_;conv=>whnf))
      refine opt_mk ep ?_
      ((conv=>whnf);repeat(refine Xg ?_;conv=>whnf))
      refine grd_mk (app_ok rfl rfl (by simp) (by simp [encVs_length]; omega)) ?_
      ((conv=>whnf);repeat(refine Xg ?_;conv=>whnf))
      refine grd_mk (app_ok rfl rfl (by rw [encRs_length]) (by simp; omega)) ?_
      ((conv=>whnf);repeat(refine Xg ?_;conv=>whnf))
      exact .mk (j + 1) [(0,0),(1,1),(2,2),(3,3),(4,4),(10,5)] (by omega)
       (conv_mk _ rfl ⟨⟨0,_,rfl,rfl,.same (encLs_nn bs)⟩,⟨1,_,rfl,rfl,.same (.cons (encN_nn _) .nil)⟩,⟨2,_,rfl,rfl,.same nns⟩,⟨3,_,rfl,rfl,.same (encRs_nn _)⟩,⟨4,_,rfl,rfl,.same (.cons (encL_nn _) .nil)⟩,⟨10,_,rfl,rfl,by rw [hL,encRs_snoc]; exact .snoc rfl (.same (encRs_nn _)) (.one rfl rfl (.fzR rfl rfl (.eq nns (by rw [encVs_snoc]; rfl)) (by simp [encVs_length])))⟩,trivial⟩ ⟨⟨_,rfl,.sl 0 0 0 _ rfl⟩,⟨_,rfl,.ptr 1 1 0 0 rfl⟩,⟨_,rfl,.ptr 2 2 0 0 rfl⟩,⟨_,rfl,.sl 3 3 0 _ rfl⟩,⟨_,rfl,.int rfl⟩,⟨_,rfl,.ptr 4 4 0 0 rfl⟩,⟨_,rfl,.slE rfl (by rw [hL]; simp only [List.length_append]; rfl)⟩,⟨_,rfl,.int rfl⟩,⟨_,rfl,.w64 (by omega) ⟨by omega,by omega⟩⟩,trivial⟩) (by omega)
     ·have hje : j = bv.length := by have : bv.length ≤ j := kge h; omega
      ((conv=>whnf);repeat(refine Xg ?_;conv=>whnf))
      exact .mk (i + 1) [(0,0),(1,1),(2,2),(3,3),(4,4),(5,5)] (by omega)
       (conv_mk _ rfl ⟨⟨0,_,rfl,rfl,.same (encLs_nn bs)⟩,⟨1,_,rfl,rfl,.same (.cons (encN_nn _) .nil)⟩,⟨2,_,rfl,rfl,.same nns⟩,⟨3,_,rfl,rfl,.same (encRs_nn _)⟩,⟨4,_,rfl,rfl,.same (.cons (encL_nn _) .nil)⟩,⟨5,_,rfl,rfl,.eq (encRs_nn _) (by rw [hje,List.take_length,List.take_succ_eq_append_getElem hir,← hrw]; simp [rowsX])⟩,trivial⟩ ⟨⟨_,rfl,.sl 0 0 0 _ rfl⟩,⟨_,rfl,.ptr 1 1 0 0 rfl⟩,⟨_,rfl,.ptr 2 2 0 0 rfl⟩,⟨_,rfl,.sl 3 3 0 _ rfl⟩,⟨_,rfl,.int rfl⟩,⟨_,rfl,.ptr 4 4 0 0 rfl⟩,⟨_,rfl,.slE rfl (by rw [hje,List.take_length,List.take_succ_eq_append_getElem hir,← hrw]; simp [rowsX])⟩,⟨_,rfl,.w64 (by omega) ⟨by omega,by omega⟩⟩,trivial⟩) (by omega)
    ·have hie : i = rows.length := by simp at h; omega
     have hmem : ∀ r ∈ rowsX rows bv,r.length ≤ k + 1 ∧ ∀ v ∈ r,okV v := by
      intro r hr
      simp only [rowsX,List.mem_flatMap,List.mem_map] at hr
      obtain ⟨r',hr',v,hv,rfl⟩ := hr
      have := hrr r' hr'
      refine ⟨by simp; omega,fun u hu => ?_⟩
      rcases List.mem_append.1 hu with hu | hu
      ·exact this.2 u hu
      ·simp at hu; rw [hu]; exact hbm.2 v hv
     ((conv=>whnf);repeat(refine Xg ?_;conv=>whnf))
     exact .mk (k + 1,rowsX rows bv) [(0,0),(1,1),(2,2),(5,3)] ⟨by simp only; omega,by rw [rowsX_length]; exact hle,hmem,hro⟩
      (conv_mk _ rfl ⟨⟨0,_,rfl,rfl,.same (encLs_nn bs)⟩,⟨1,_,rfl,rfl,.same (.cons (encN_nn _) .nil)⟩,⟨2,_,rfl,rfl,.same nns⟩,⟨5,_,rfl,rfl,.eq (encRs_nn _) (by rw [hie,List.take_length])⟩,trivial⟩ ⟨⟨_,rfl,.sl 0 0 0 _ rfl⟩,⟨_,rfl,.ptr 1 1 0 0 rfl⟩,⟨_,rfl,.ptr 2 2 0 0 rfl⟩,⟨_,rfl,.slE rfl (by rw [hie,List.take_length])⟩,⟨_,rfl,.w64 (by simp) ⟨by simp only; omega,by simp only; omega⟩⟩,trivial⟩) (by simp only; omega)
 ·have hke : k = kids.length := by rw [encI_length] at h; simp at h; omega
  rw [hke,List.drop_length,rowsL] at hro
  ((conv=>whnf);repeat(refine Xg ?_;conv=>whnf))
  refine ALoop.ph 33 4 ?_
  refine ALoop.at nnΓ (fun i : Nat => i ≤ rows.length)
   (fun i => ⟨[(2,.ptr 1 0 0),(4,.ptr 2 0 0),(5,.sl 3 0 rows.length),(12,.sl 4 0 ((rows.take i).map (madeV name)).length),(13,.int .i64 i)],[(0,.row 128 2 (encLs bs)),(1,.row 35 12 [encN ⟨kind,name,lo,hi,ws,ls,vals,kids,.mk vk vn vs vks⟩]),(2,.row 128 2 [.agg [.nsl,.bool false]]),(3,.row 31 1 (encRs rows)),(4,.row 33 4 (encVs ((rows.take i).map (madeV name))))],5,91⟩)
   (fun i => rows.length - i) 0 [(0,0),(1,1),(2,2),(3,3),(4,4)] (by simp)
   (conv_mk _ rfl ⟨⟨0,_,rfl,rfl,.same (encLs_nn bs)⟩,⟨1,_,rfl,rfl,.same (.cons (encN_nn _) .nil)⟩,⟨2,_,rfl,rfl,.same nns⟩,⟨3,_,rfl,rfl,.same (encRs_nn _)⟩,⟨4,_,rfl,rfl,.same .nil⟩,trivial⟩ ⟨⟨_,rfl,.ptr 1 1 0 0 rfl⟩,⟨_,rfl,.ptr 2 2 0 0 rfl⟩,⟨_,rfl,.sl 3 3 0 _ rfl⟩,⟨_,rfl,.nslk 4 4 _ rfl rfl⟩,⟨_,rfl,.int rfl⟩,trivial⟩) ?_
  intro i hi0
  ((conv=>whnf);repeat(refine Xg ?_;conv=>whnf))
  refine bcs_mk (fun h => ?_) (fun h => ?_)
  ·have hir : i < rows.length := by simpa using h
   obtain ⟨rw,hrw⟩ : ∃ rw,rw = rows[i] := ⟨_,rfl⟩
   have e3 : (encRs rows)[0 + (i : Int).toNat]? = some (.il 4 (encVs rw)) := by rw [Nat.zero_add,Int.toNat_natCast,encRs,List.getElem?_map,List.getElem?_eq_getElem hir,hrw]; rfl
   have b3 : Nat.blt (i : Int).toNat rows.length = true := Nat.ble_eq_true_of_le (by simp; omega)
   have hM := rMade ⟨kind,name,lo,hi,ws,ls,vals,kids,.mk vk vn vs vks⟩ rw
   have hL : (rows.take (i + 1)).map (madeV name) = (rows.take i).map (madeV name) ++ [madeV name rw] := by rw [List.take_succ_eq_append_getElem hir,← hrw]; simp
   simp only at hM
   obtain ⟨⟨m1,m2,m3,m4⟩,hmv⟩ : ∃ mv,mv = madeV name rw := ⟨_,rfl⟩
   rw [← hmv] at hM hL
   ((conv=>whnf);repeat(refine Xg ?_;conv=>whnf))
   repeat ((first | refine ⟨rfl, ?_⟩ | refine grd_mk b3 ?_ | refine opt_mk e3 ?_); ((conv=>whnf);repeat(refine Xg ?_;conv=>whnf)))
   refine hM.go ?_ (.cons (encN_nn ⟨kind,name,lo,hi,ws,ls,vals,kids,.mk vk vn vs vks⟩) nns)
   ((conv=>whnf);repeat(refine Xg ?_;conv=>whnf))
   refine grd_mk (app_ok rfl rfl (by rw [encVs_length]) (by simp; omega)) ?_
   ((conv=>whnf);repeat(refine Xg ?_;conv=>whnf))
   repeat ((first | refine ⟨rfl, ?_⟩ | refine grd_mk b3 ?_ | refine opt_mk e3 ?_); ((conv=>whnf);repeat(refine Xg ?_;conv=>whnf)))
   exact .mk (i + 1) [(0,0),(1,1),(2,2),(3,3),(15,4)] (by omega)
    (conv_mk _ rfl ⟨⟨0,_,rfl,rfl,.same (encLs_nn bs)⟩,⟨1,_,rfl,rfl,.same (.cons (encN_nn _) .nil)⟩,⟨2,_,rfl,rfl,.same nns⟩,⟨3,_,rfl,rfl,.same (encRs_nn _)⟩,⟨15,_,rfl,rfl,.eq nns (by rw [hL,encVs_snoc]; rfl)⟩,trivial⟩ ⟨⟨_,rfl,.ptr 1 1 0 0 rfl⟩,⟨_,rfl,.ptr 2 2 0 0 rfl⟩,⟨_,rfl,.sl 3 3 0 _ rfl⟩,⟨_,rfl,.slE rfl (by rw [hL]; simp)⟩,⟨_,rfl,.w64 (by omega) ⟨by omega,by omega⟩⟩,trivial⟩) (by omega)
  ·have hie : i = rows.length := by simp at h; omega
   rw [hie,List.take_length]
   have hmo : ∀ v ∈ rows.map (madeV name),okV v := by
    intro v hv
    obtain ⟨r,hr,rfl⟩ := List.mem_map.1 hv
    have := hrr r hr
    exact madeV_ok hname (by omega) this.2
   have hS := rSortP (rows.map (madeV name)) (by simp; omega) hmo
   have hseq2 : seqL bs ⟨kind,name,lo,hi,ws,ls,vals,kids,.mk vk vn vs vks⟩ = ⟨sortV (rows.map (madeV name)),false⟩ := by rw [hseq,hro]
   rw [hseq2]
   generalize rows.map (madeV name) = mv at hS ⊢
   generalize sortV mv = sv at hS ⊢
   ((conv=>whnf);repeat(refine Xg ?_;conv=>whnf))
   refine ACalls.pre nnΓ [(0,0),(1,1),(2,2),(3,3)] (mem' := [(0,.row 128 2 (encLs bs)),(1,.row 35 12 [encN ⟨kind,name,lo,hi,ws,ls,vals,kids,.mk vk vn vs vks⟩]),(2,.row 128 2 [.agg [.nsl,.bool false]]),(3,.row 31 1 (encRs rows))]) (args' := [.il 4 (encVs mv)]) rfl
    ⟨⟨0,_,rfl,rfl,.same (encLs_nn bs)⟩,⟨1,_,rfl,rfl,.same (.cons (encN_nn _) .nil)⟩,⟨2,_,rfl,rfl,.same nns⟩,⟨3,_,rfl,rfl,.same (encRs_nn _)⟩,trivial⟩ (.cons (.fz' rfl rfl (by rw [encVs_length]; omega) (by rw [List.drop_zero]; exact List.take_of_length_le (by rw [encVs_length]; omega)) nns) .nil) ?_
   refine hS.go ?_
   ((conv=>whnf);repeat(refine Xg ?_;conv=>whnf))
   exact fin_mk (r' := encL ⟨sv,false⟩) (n' := 1) (m' := [(0,.row 128 2 (encLs bs))]) [(0,0)] rfl ⟨⟨0,_,rfl,rfl,.same (encLs_nn bs)⟩,trivial⟩ (.same _ (encL_nn ⟨sv,false⟩)) ⟨rfl,rfl⟩
set_option maxHeartbeats 8000000
theorem oListSeq (x : Nd) (bs : List Lst) (h3 : x.kind = 3) (hname : x.name.length ≤ 4294967296) (hkl : x.kids.length ≤ 65536) (hk : ∀ (j : Nat) (k : Int),x.kids[j]? = some k → 0 ≤ k ∧ k < bs.length) (hb : ∀ b ∈ bs,b.vals.length ≤ 1024 ∧ ∀ v ∈ b.vals,okV v) :
  ACalls Tryz.prog [] 100 [encN x,.sl 0 0 bs.length] [(0,.row 128 2 (encLs bs))] 1 fun r m _ => r = encL (listN x bs) ∧ m = [(0,.row 128 2 (encLs bs))] := by
 have hS := oSeq x bs hname hkl hk hb
 have e : listN x bs = seqL bs x := by unfold listN; rw [if_neg (by omega),if_neg (by omega),if_pos h3]
 rw [e]
 generalize seqL bs x = q at hS ⊢
 obtain ⟨sv,sm⟩ := q
 have hnn := encN_nn x
 obtain ⟨kind,name,lo,hi,ws,ls,vals,kids,⟨vk,vn,vs,vks⟩⟩ := x
 simp only at h3
 subst h3
 refine acalls_go nnΓ Tryz.func100 rfl ?_
 ((conv=>whnf);repeat(refine Xg ?_;conv=>whnf))
 refine ACalls.use1 nnΓ hS 0 rfl (encLs_nn bs) (.cons (.same _ hnn) (.cons (.sl 0 0 0 _ rfl) .nil)) ?_
 rintro r m n ⟨rfl,rfl⟩
 refine ⟨_,rfl,encL_nn _,encLs_nn bs, ?_⟩
 ((conv=>whnf);repeat(refine Xg ?_;conv=>whnf))
 exact fin_mk (r' := encL ⟨sv,sm⟩) (n' := 1) (m' := [(0,.row 128 2 (encLs bs))]) [(0,0)] rfl ⟨⟨0,_,rfl,rfl,.same (encLs_nn bs)⟩,trivial⟩ (.same _ (encL_nn ⟨sv,sm⟩)) ⟨rfl,rfl⟩
theorem oList (i : Nat) (x : Nd) (bs : List Lst) (hx : GoodN i x) (hl : i = bs.length) (hb : GoodL bs) :
  ACalls Tryz.prog [] 100 [encN x,.sl 0 0 bs.length] [(0,.row 128 2 (encLs bs))] 1 fun r m _ => r = encL (listN x bs) ∧ m = [(0,.row 128 2 (encLs bs))] := by
 subst hl
 have hk := hx.kids
 have hn := numbersN_range hx.num
 rcases (show x.kind = 0 ∨ x.kind = 1 ∨ x.kind = 2 ∨ x.kind = 3 ∨ x.kind = 4 by have := hx.kind; omega) with h | h | h | h | h
 ·exact oListLeaf x bs h
 ·exact oListRange x bs h hn.2.1 hn.1 hn.2.2.1 hn.2.2.2
 ·exact oListUni2 x bs h hx.klen hk hb
 ·exact oListSeq x bs h hx.ok.name hx.klen hk hb
 ·exact oListUni4 x bs h hx.klen hk hb
abbrev tM (ns : List Nd) : Mem := [(0,.row 35 12 (encNs ns))]
theorem encN_own {l : List Nd} {k n : Nat} (h : k < l.length) (hn : l.length = n) : ∃ x,l[k]? = some x ∧ l[k] = x ∧ (encNs l)[0 + (k : Int).toNat]? = some (encN x) ∧ Nat.blt (k : Int).toNat n = true :=
 ⟨l[k],List.getElem?_eq_getElem h,rfl,by simp [encNs_get,List.getElem?_eq_getElem h],Nat.ble_eq_true_of_le (by simp; omega)⟩
theorem oLists (ns : List Nd) (n : Nat) (hn : n ≤ ns.length) (hl : ns.length ≤ 100000) (hg : ∀ (i : Nat) (x : Nd),i < n → ns[i]? = some x → GoodN i x) :
  ACalls Tryz.prog [] 77 [.agg [.sl 0 0 ns.length],.int .i64 n] (tM ns) 1 fun r m k => r = .sl 1 0 n ∧ m = [(0,.row 35 12 (encNs ns)),(1,.row 128 2 (encLs (listsT (ns.take n))))] ∧ k = 2 := by
 refine acalls_go nnΓ Tryz.func77 rfl ?_
 ((conv=>whnf);repeat(refine Xg ?_;conv=>whnf))
 refine ALoop.ph 128 2 ?_
 refine ALoop.at nnΓ (fun i : Nat => i ≤ n)
  (fun i => ⟨[(1,.int .i64 n),(2,.ptr 1 0 0),(5,.sl 2 0 i),(6,.int .i64 i)],[(0,.row 35 12 (encNs ns)),(1,.row 25 1 [.agg [.sl 0 0 ns.length]]),(2,.row 128 2 (encLs (listsT (ns.take i))))],3,23⟩)
  (fun i => n - i) 0 [(0,0),(1,1),(2,2)] (by simp)
  (conv_mk _ rfl ⟨⟨0,_,rfl,rfl,.same (encNs_nn _)⟩,⟨1,_,rfl,rfl,.cons (.agg (.cons (.sl 0 0 0 _ rfl) .nil)) .nil⟩,⟨2,_,rfl,rfl,.same .nil⟩,trivial⟩ ⟨⟨_,rfl,.same _ nn⟩,⟨_,rfl,.ptr 1 1 0 0 rfl⟩,⟨_,rfl,.nslk 2 2 _ rfl rfl⟩,⟨_,rfl,.same _ nn⟩,trivial⟩) ?_
 intro i hi
 ((conv=>whnf);repeat(refine Xg ?_;conv=>whnf))
 refine bcs_mk (fun h => ?_) (fun h => ?_)
 ·have hin : i < n := by simp at h; omega
  obtain ⟨x,hx1,hx2,ex,bx⟩ := encN_own (l := ns) (k := i) (n := ns.length) (by omega) rfl
  have hgx := hg i x hin hx1
  have htl : (listsT (ns.take i)).length = i := by rw [listsT_length]; simp; omega
  have hL := oList i x (listsT (ns.take i)) hgx htl.symm (listsT_good _ fun j y hy => by
   have hj := (List.getElem?_eq_some_iff.1 hy).1
   rw [List.getElem?_take,if_pos (by simp at hj; omega)] at hy
   exact hg j y (by simp at hj; omega) hy)
  have hnx : listsT (ns.take (i + 1)) = listsT (ns.take i) ++ [listN x (listsT (ns.take i))] := by rw [List.take_succ_eq_append_getElem (by omega),hx2,listsT_snoc]
  have hxn := encN_nn x
  have hxc : (encN x).cells.length = 12 := by obtain ⟨kind,name,lo,hi,ws,ls,vals,kids,⟨vk,vn,vs,vks⟩⟩ := x; rfl
  generalize listN x (listsT (ns.take i)) = nl at hL hnx
  obtain ⟨bs,hbs⟩ : ∃ bs,bs = listsT (ns.take i) := ⟨_,rfl⟩
  rw [← hbs] at hL hnx htl ⊢
  obtain ⟨kind,name,lo,hi,ws,ls,vals,kids,⟨vk,vn,vs,vks⟩⟩ := x
  ((conv=>whnf);repeat(refine Xg ?_;conv=>whnf))
  repeat ((first | refine grd_mk bx ?_ | refine opt_mk ex ?_); ((conv=>whnf);repeat(refine Xg ?_;conv=>whnf)))
  refine ACalls.use1 nnΓ hL 2 rfl (encLs_nn bs) (.cons (.same _ hxn) (.cons (.slE rfl htl.symm) .nil)) ?_
  rintro r m k ⟨rfl,rfl⟩
  refine ⟨_,rfl,encL_nn _,encLs_nn bs, ?_⟩
  ((conv=>whnf);repeat(refine Xg ?_;conv=>whnf))
  refine grd_mk (app_ok rfl rfl (by rw [encLs_length,htl]) (by simp; omega)) ?_
  ((conv=>whnf);repeat(refine Xg ?_;conv=>whnf))
  exact .mk (i + 1) [(0,0),(1,1),(4,2)] (by omega)
   (conv_mk _ rfl ⟨⟨0,_,rfl,rfl,.same (encNs_nn _)⟩,⟨1,_,rfl,rfl,.cons (.agg (.cons (.sl 0 0 0 _ rfl) .nil)) .nil⟩,⟨4,_,rfl,rfl,.eq (encLs_nn _) (by rw [hnx]; simp [encLs])⟩,trivial⟩ ⟨⟨_,rfl,.same _ nn⟩,⟨_,rfl,.ptr 1 1 0 0 rfl⟩,⟨_,rfl,.slE rfl (by simp)⟩,⟨_,rfl,.w64 (by omega) ⟨by omega,by omega⟩⟩,trivial⟩) (by omega)
 ·have hin : i = n := by simp at h; omega
  subst hin
  ((conv=>whnf);repeat(refine Xg ?_;conv=>whnf))
  exact fin_mk (r' := .sl 1 0 i) (n' := 2) (m' := [(0,.row 35 12 (encNs ns)),(1,.row 128 2 (encLs (listsT (ns.take i))))]) [(0,0),(2,1)] rfl ⟨⟨0,_,rfl,rfl,.same (encNs_nn _)⟩,⟨2,_,rfl,rfl,.same (encLs_nn _)⟩,trivial⟩ (.sl 2 1 0 _ rfl) ⟨rfl,rfl,rfl⟩
set_option maxHeartbeats 8000000
theorem listsT_at {ns : List Nd} {i : Nat} (hi : i < ns.length) : (listsT (ns.take (i + 1)))[i]? = some (atL (listsT (ns.take (i + 1))) i) := by
 have : i < (listsT (ns.take (i + 1))).length := by rw [listsT_length]; simp; omega
 unfold atL
 rw [List.getD_eq_getElem?_getD,Int.toNat_natCast,List.getElem?_eq_getElem this]
 rfl
theorem oValues (ns : List Nd) (i : Nat) (hi : i < ns.length) (hl : ns.length ≤ 100000) (hg : ∀ (j : Nat) (x : Nd),j < i + 1 → ns[j]? = some x → GoodN j x) :
  ACalls Tryz.prog [] 44 [.agg [.sl 0 0 ns.length],.int .i64 i] (tM ns) 1 fun r m _ => r = .tup [.il 4 (encVs (atL (listsT (ns.take (i + 1))) i).vals),.bool (!(atL (listsT (ns.take (i + 1))) i).many)] ∧ m = tM ns := by
 have hL := oLists ns (i + 1) (by omega) hl hg
 have hw : IntKind.i64.wrap ((i : Int) + 1) = ((i + 1 : Nat) : Int) := w64 (by omega) ⟨by omega,by omega⟩
 have hat := listsT_at hi
 have hlen : (listsT (ns.take (i + 1))).length = i + 1 := by rw [listsT_length]; simp; omega
 generalize atL (listsT (ns.take (i + 1))) i = b at hat ⊢
 generalize listsT (ns.take (i + 1)) = bs at hL hat hlen
 obtain ⟨bv,bm⟩ := b
 have e2 : (encLs bs)[0 + ((i : Nat) : Int).toNat]? = some (encL ⟨bv,bm⟩) := by rw [Nat.zero_add,Int.toNat_natCast,encLs_get,hat]; rfl
 have b2 : Nat.blt ((i : Nat) : Int).toNat (i + 1) = true := Nat.ble_eq_true_of_le (by simp)
 refine acalls_go nnΓ Tryz.func44 rfl ?_
 ((conv=>whnf);repeat(refine Xg ?_;conv=>whnf))
 rw [hw]
 refine ACalls.useN nnΓ [(0,0)] hL rfl (.cons (.agg' (.cons (.sl 0 0 0 _ rfl) .nil)) (.cons (.same _ nn) .nil)) ⟨⟨0,_,rfl,rfl,.same (encNs_nn _)⟩,trivial⟩ rfl ?_
 rintro r m k ⟨rfl,rfl,rfl⟩
 refine ⟨[(0,0),(1,2)],.sl 2 0 (i + 1),[(0,.row 35 12 (encNs ns)),(2,.row 128 2 (encLs bs))],3,.sl 1 2 0 _ rfl,⟨⟨0,_,rfl,rfl,.same (encNs_nn _)⟩,⟨1,_,rfl,rfl,.same (encLs_nn _)⟩,trivial⟩,rfl, ?_⟩
 ((conv=>whnf);repeat(refine Xg ?_;conv=>whnf))
 repeat ((first | refine ⟨rfl, ?_⟩ | refine grd_mk b2 ?_ | refine opt_mk e2 ?_); ((conv=>whnf);repeat(refine Xg ?_;conv=>whnf)))
 exact fin_mk (r' := .tup [.il 4 (encVs bv),.bool (!bm)]) (n' := 1) (m' := tM ns) [(0,0)] rfl ⟨⟨0,_,rfl,rfl,.same (encNs_nn _)⟩,trivial⟩ (.same _ nn) ⟨rfl,rfl⟩
theorem oBound (ns : List Nd) (x : Nd) (i : Nat) (hi : i ≤ ns.length) (hl : ns.length ≤ 100000) (hg : ∀ (j : Nat) (x : Nd),j < i → ns[j]? = some x → GoodN j x) (hx : okN x) (hk0 : 0 < x.kids.length) (hk : ∀ (j : Nat) (k : Int),x.kids[j]? = some k → 0 ≤ k ∧ k < i) :
  ACalls Tryz.prog [] 48 [.agg [.sl 0 0 ns.length],encN x] (tM ns) 1 fun r m _ => r = .int .i64 (boundE ns x) ∧ m = tM ns := by
 obtain ⟨q,hq⟩ : ∃ q,x.kids[0]? = some q := ⟨x.kids[0],List.getElem?_eq_getElem hk0⟩
 obtain ⟨q1,q2⟩ := hk 0 q hq
 obtain ⟨qn,rfl⟩ := Int.eq_ofNat_of_zero_le q1
 have hgd : x.kids.getD 0 0 = qn := by rw [List.getD_eq_getElem?_getD,hq]; rfl
 have hV := oValues ns qn (by omega) hl fun j y hj hy => hg j y (by omega) hy
 have hbl := atL_good (listsT_good (ns.take (qn + 1)) fun j y hy => hg j y (by have := (getElem_take_some hy).2; omega) (getElem_take_some hy).1) qn
 have hbe : boundE ns x = if (atL (listsT (ns.take (qn + 1))) qn).many = true then 4 else if sameVs (atL (listsT (ns.take (qn + 1))) qn).vals x.values = true then 0 else 1 := by
  unfold boundE
  simp only [hgd,Int.toNat_natCast]
 rw [hbe]
 generalize atL (listsT (ns.take (qn + 1))) qn = b at hV hbl ⊢
 obtain ⟨bv,bm⟩ := b
 simp only at hV hbl ⊢
 have hS := rSameVs bv x.values (by omega) hbl.2
 generalize sameVs bv x.values = sm at hS ⊢
 have ek : (encI x.kids)[(0 : Int).toNat]? = some (.int .i64 (qn : Int)) := by rw [encI_get]; simp [hq]
 obtain ⟨kind,name,lo,hi',ws,ls,vals,kids,⟨vk,vn,vs,vks⟩⟩ := x
 simp only at hS ek
 refine acalls_go nnΓ Tryz.func48 rfl ?_
 ((conv=>whnf);repeat(refine Xg ?_;conv=>whnf))
 repeat ((first | refine ⟨rfl, ?_⟩ | refine opt_mk ek ?_); ((conv=>whnf);repeat(refine Xg ?_;conv=>whnf)))
 refine ACalls.use1 nnΓ hV 0 rfl (encNs_nn _) (.cons (.agg' (.cons (.sl 0 0 0 _ rfl) .nil)) (.cons (.same _ nn) .nil)) ?_
 rintro r m k ⟨rfl,rfl⟩
 refine ⟨_,rfl,nn,encNs_nn _, ?_⟩
 cases bm with
 | true =>
  ((conv=>whnf);repeat(refine Xg ?_;conv=>whnf))
  repeat ((first | refine ⟨rfl, ?_⟩ | refine opt_mk ek ?_); ((conv=>whnf);repeat(refine Xg ?_;conv=>whnf)))
  exact fin_mk (r' := .int .i64 4) (n' := 1) (m' := tM ns) [(0,0)] rfl ⟨⟨0,_,rfl,rfl,.same (encNs_nn _)⟩,trivial⟩ (.same _ nn) ⟨rfl,rfl⟩
 | false =>
  ((conv=>whnf);repeat(refine Xg ?_;conv=>whnf))
  repeat ((first | refine ⟨rfl, ?_⟩ | refine opt_mk ek ?_); ((conv=>whnf);repeat(refine Xg ?_;conv=>whnf)))
  refine hS.go ?_
  cases sm with
  | true =>
   ((conv=>whnf);repeat(refine Xg ?_;conv=>whnf))
   exact fin_mk (r' := .int .i64 0) (n' := 1) (m' := tM ns) [(0,0)] rfl ⟨⟨0,_,rfl,rfl,.same (encNs_nn _)⟩,trivial⟩ (.same _ nn) ⟨rfl,rfl⟩
  | false =>
   ((conv=>whnf);repeat(refine Xg ?_;conv=>whnf))
   exact fin_mk (r' := .int .i64 1) (n' := 1) (m' := tM ns) [(0,0)] rfl ⟨⟨0,_,rfl,rfl,.same (encNs_nn _)⟩,trivial⟩ (.same _ nn) ⟨rfl,rfl⟩
theorem oValid (ns : List Nd) (hl : ns.length ≤ 100000) (ho : ∀ x ∈ ns,okN x ∧ x.values.length ≤ 4294967290) :
  ACalls Tryz.prog [] 25 [.agg [.sl 0 0 ns.length]] (tM ns) 1 fun r m _ => r = .int .i64 (validT ns) ∧ m = tM ns := by
 have hfin : ∀ (e : Int) (mem : Mem) (nx : Nat),lk mem 0 = some (.row 35 12 (encNs ns)) → e = validT ns → Fini 1 (fun r m (_ : Nat) => r = .int .i64 (validT ns) ∧ m = tM ns) (.int .i64 e) mem nx := by
  intro e mem nx h0 he
  exact fin_mk (r' := .int .i64 e) (n' := 1) (m' := tM ns) [(0,0)] rfl ⟨⟨0,_,rfl,h0,.same (encNs_nn _)⟩,trivial⟩ (.same _ nn) ⟨by rw [he],rfl⟩
 refine acalls_go nnΓ Tryz.func25 rfl ?_
 ((conv=>whnf);repeat(refine Xg ?_;conv=>whnf))
 refine bcs_mk (fun h => ?_) (fun h => ?_)
 ·have h1 : 4096 < ns.length := by simp at h; omega
  ((conv=>whnf);repeat(refine Xg ?_;conv=>whnf))
  exact hfin _ _ _ rfl (by unfold validT; rw [if_pos h1])
 ·have h1 : ¬ 4096 < ns.length := by simp at h; omega
  have hvt : validT ns = validF [] ns := by unfold validT; rw [if_neg h1]
  ((conv=>whnf);repeat(refine Xg ?_;conv=>whnf))
  refine ALoop.ph 3 1 ?_
  refine ALoop.ph 3 1 ?_
  refine ALoop.at nnΓ (fun i : Nat => i ≤ ns.length ∧ validF [] (ns.take i) = 0)
   (fun i => ⟨[(1,.ptr 1 0 0),(3,.sl 2 0 i),(4,.sl 3 0 i),(5,.int .i64 i)],[(0,.row 35 12 (encNs ns)),(1,.row 25 1 [.agg [.sl 0 0 ns.length]]),(2,.row 3 1 (encI (lensT (ns.take i)))),(3,.row 3 1 (encI (sizsT (ns.take i))))],4,57⟩)
   (fun i => ns.length - i) 0 [(0,0),(1,1),(2,2),(3,3)] ⟨by simp,by simp [validF]⟩
   (conv_mk _ rfl ⟨⟨0,_,rfl,rfl,.same (encNs_nn _)⟩,⟨1,_,rfl,rfl,.cons (.agg (.cons (.sl 0 0 0 _ rfl) .nil)) .nil⟩,⟨2,_,rfl,rfl,.same .nil⟩,⟨3,_,rfl,rfl,.same .nil⟩,trivial⟩ ⟨⟨_,rfl,.ptr 1 1 0 0 rfl⟩,⟨_,rfl,.nslk 2 2 _ rfl rfl⟩,⟨_,rfl,.nslk 3 3 _ rfl rfl⟩,⟨_,rfl,.same _ nn⟩,trivial⟩) ?_
  rintro i ⟨hi,hv0⟩
  ((conv=>whnf);repeat(refine Xg ?_;conv=>whnf))
  refine bcs_mk (fun h => ?_) (fun h => ?_)
  ·have hin : i < ns.length := by simp at h; omega
   obtain ⟨x,hx1,hx2,ex,bx⟩ := encN_own (l := ns) (k := i) (n := ns.length) hin rfl
   have hxm := List.mem_of_getElem? hx1
   obtain ⟨hxo,hxv⟩ := ho x hxm
   have hsplit : ns = ns.take i ++ x :: ns.drop (i + 1) := by rw [← hx2,← List.drop_eq_getElem_cons hin,List.take_append_drop]
   have hti : (ns.take i).length = i := by simp; omega
   have htn : ns.take (i + 1) = ns.take i ++ [x] := by rw [List.take_succ_eq_append_getElem hin,hx2]
   have hgood := valid_good (ns.take i) (fun y hy => (ho y (List.mem_of_mem_take hy)).1) hv0
   obtain ⟨hls,hss⟩ := valid_lens (ns.take i) hv0
   have hll : (lensT (ns.take i)).length = i := by rw [lensT_length,hti]
   have hsl : (sizsT (ns.take i)).length = i := by rw [sizsT_length,hti]
   have hstop := fun hs => validF_stop (l := ns.take i) (r := ns.drop (i + 1)) (x := x) hv0 hs
   rw [← hsplit] at hstop
   have hgo := validF_snoc [] (ns.take i) x hv0
   rw [List.nil_append,← htn] at hgo
   have hN := rNode i x (by omega) hxo hxv
   have hlt := lensT_snoc (ns.take i) x
   have hst := sizsT_snoc (ns.take i) x
   rw [← htn] at hlt hst
   have hse : stepE (ns.take i) (lensT (ns.take i)) (sizsT (ns.take i)) x = if nodeE i x ≠ 0 then nodeE i x else if 256 < lenN (lensT (ns.take i)) x ∨ 1024 < sizN (sizsT (ns.take i)) x then 4 else if x.kind = 4 then boundE (ns.take i) x else 0 := by
    unfold stepE; rw [hti]
   have hbnd : (0 < x.kids.length ∧ ∀ (j : Nat) (k : Int),x.kids[j]? = some k → 0 ≤ k ∧ k < i) → boundE (ns.take i) x = boundE ns x := by
    rintro ⟨h0,hk⟩
    obtain ⟨q,hq⟩ : ∃ q,x.kids[0]? = some q := ⟨x.kids[0],List.getElem?_eq_getElem h0⟩
    obtain ⟨q1,q2⟩ := hk 0 q hq
    have hgd : x.kids.getD 0 0 = q := by rw [List.getD_eq_getElem?_getD,hq]; rfl
    unfold boundE
    simp only [hgd]
    rw [List.take_take,Nat.min_eq_left (by omega)]
   have hxn := encN_nn x
   obtain ⟨ne,hne⟩ : ∃ ne,ne = nodeE i x := ⟨_,rfl⟩
   rw [← hne] at hN hse
   by_cases n0 : ne = 0
   ·subst n0
    have hok := node_ok hne.symm
    have h4 : 4 ≤ x.kind → 0 < x.kids.length := fun h => by have := hok.bind (by have := hok.kind; omega); omega
    have hL := rLengths (lensT (ns.take i)) x hxo (by omega) hls (by rw [hll]; exact hok.kids) h4 hok.kind
    have hS := rSizes (sizsT (ns.take i)) x hxo (by omega) hss (by rw [hsl]; exact hok.kids) h4 hok.kind
    have hB := oBound ns x i (by omega) hl (fun j y hj hy => hgood j y (by rw [List.getElem?_take,if_pos hj]; exact hy)) hxo
    rw [if_neg (by simp)] at hse
    generalize lensT (ns.take i) = lsI at hL hll hlt hse hstop hgo hls ⊢
    generalize sizsT (ns.take i) = ssI at hS hsl hst hse hstop hgo hss ⊢
    generalize lenN lsI x = ln at hL hlt hse
    generalize sizN ssI x = sn at hS hst hse
    obtain ⟨kind,name,lo,hi',ws,ls,vals,kids,⟨vk,vn,vs,vks⟩⟩ := x
    simp only at hse h4 hB hbnd hok
    ((conv=>whnf);repeat(refine Xg ?_;conv=>whnf))
    repeat ((first | refine grd_mk bx ?_ | refine opt_mk ex ?_); ((conv=>whnf);repeat(refine Xg ?_;conv=>whnf)))
    refine hN.go ?_ (.cons (.int _ _) (.cons hxn .nil))
    ((conv=>whnf);repeat(refine Xg ?_;conv=>whnf))
    refine ACalls.useApp nnΓ hL 2 rfl (encI_nn _) (.cons (.slE rfl hll.symm) (.cons (.same _ hxn) .nil)) ?_
    rintro len ys ⟨rfl,rfl⟩
    ((conv=>whnf);repeat(refine Xg ?_;conv=>whnf))
    refine ACalls.useApp nnΓ hS 3 rfl (encI_nn _) (.cons (.slE rfl hsl.symm) (.cons (.same _ hxn) .nil)) ?_
    rintro len ys ⟨rfl,rfl⟩
    have el : (encI (lsI ++ [ln]))[0 + ((i : Nat) : Int).toNat]? = some (.int .i64 ln) := by simp [encI,hll]
    have bl : Nat.blt ((i : Nat) : Int).toNat (lsI.length + 1) = true := Nat.ble_eq_true_of_le (by simp; omega)
    have es : (encI (ssI ++ [sn]))[0 + ((i : Nat) : Int).toNat]? = some (.int .i64 sn) := by simp [encI,hsl]
    have bs' : Nat.blt ((i : Nat) : Int).toNat (ssI.length + 1) = true := Nat.ble_eq_true_of_le (by simp; omega)
    ((conv=>whnf);repeat(refine Xg ?_;conv=>whnf))
    repeat ((first | refine grd_mk bl ?_ | refine opt_mk el ?_); ((conv=>whnf);repeat(refine Xg ?_;conv=>whnf)))
    refine bcs_mk (fun h2 => ?_) (fun h2 => ?_)
    ·have h3 : 256 < ln := by simpa using h2
     rw [h2]
     rw [if_pos (.inl h3)] at hse
     have hres := hstop (by rw [hse]; omega)
     ((conv=>whnf);repeat(refine Xg ?_;conv=>whnf))
     exact hfin _ _ _ rfl (by rw [hvt,hres,hse])
    ·have h3 : ¬ 256 < ln := by simpa using h2
     rw [h2]
     ((conv=>whnf);repeat(refine Xg ?_;conv=>whnf))
     repeat ((first | refine grd_mk bs' ?_ | refine opt_mk es ?_); ((conv=>whnf);repeat(refine Xg ?_;conv=>whnf)))
     refine bcs_mk (fun h4' => ?_) (fun h4' => ?_)
     ·have h5 : 1024 < sn := by simpa using h4'
      rw [h4']
      rw [if_pos (.inr h5)] at hse
      have hres := hstop (by rw [hse]; omega)
      ((conv=>whnf);repeat(refine Xg ?_;conv=>whnf))
      exact hfin _ _ _ rfl (by rw [hvt,hres,hse])
     ·have h5 : ¬ 1024 < sn := by simpa using h4'
      rw [h4']
      rw [if_neg (by omega)] at hse
      by_cases k4 : kind = 4
      ·rw [if_pos k4] at hse
       have h40 := h4 (by omega)
       have hB := hB h40 hok.kids
       rw [hbnd ⟨h40,hok.kids⟩] at hse
       generalize boundE ns ⟨kind,name,lo,hi',ws,ls,vals,kids,.mk vk vn vs vks⟩ = be at hB hse
       subst k4
       ((conv=>whnf);repeat(refine Xg ?_;conv=>whnf))
       refine ACalls.use1 nnΓ hB 0 rfl (encNs_nn _) (.cons (.agg' (.cons (.sl 0 0 0 _ rfl) .nil)) (.cons (.same _ hxn) .nil)) ?_
       rintro r m k ⟨rfl,rfl⟩
       refine ⟨_,rfl,nn,encNs_nn _, ?_⟩
       by_cases be0 : be = 0
       ·subst be0
        rw [hse] at hgo
        ((conv=>whnf);repeat(refine Xg ?_;conv=>whnf))
        exact .mk (i + 1) [(0,0),(1,1),(5,2),(6,3)] ⟨by omega,hgo⟩
         (conv_mk _ rfl ⟨⟨0,_,rfl,rfl,.same (encNs_nn _)⟩,⟨1,_,rfl,rfl,.cons (.agg (.cons (.sl 0 0 0 _ rfl) .nil)) .nil⟩,⟨5,_,rfl,rfl,.eq (encI_nn _) (by rw [hlt])⟩,⟨6,_,rfl,rfl,.eq (encI_nn _) (by rw [hst])⟩,trivial⟩ ⟨⟨_,rfl,.ptr 1 1 0 0 rfl⟩,⟨_,rfl,.slE rfl (by rw [hll])⟩,⟨_,rfl,.slE rfl (by rw [hsl])⟩,⟨_,rfl,.w64 (by omega) ⟨by omega,by omega⟩⟩,trivial⟩) (by omega)
       ·have d5 : (be != 0) = true := by simpa using be0
        have hres := hstop (by rw [hse]; exact be0)
        ((conv=>whnf);repeat(refine Xg ?_;conv=>whnf))
        rw [d5]
        ((conv=>whnf);repeat(refine Xg ?_;conv=>whnf))
        exact hfin _ _ _ rfl (by rw [hvt,hres,hse])
      ·rw [if_neg k4] at hse
       have d4 : (kind == 4) = false := by simpa using k4
       rw [hse] at hgo
       ((conv=>whnf);repeat(refine Xg ?_;conv=>whnf))
       rw [d4]
       ((conv=>whnf);repeat(refine Xg ?_;conv=>whnf))
       exact .mk (i + 1) [(0,0),(1,1),(5,2),(6,3)] ⟨by omega,hgo⟩
        (conv_mk _ rfl ⟨⟨0,_,rfl,rfl,.same (encNs_nn _)⟩,⟨1,_,rfl,rfl,.cons (.agg (.cons (.sl 0 0 0 _ rfl) .nil)) .nil⟩,⟨5,_,rfl,rfl,.eq (encI_nn _) (by rw [hlt])⟩,⟨6,_,rfl,rfl,.eq (encI_nn _) (by rw [hst])⟩,trivial⟩ ⟨⟨_,rfl,.ptr 1 1 0 0 rfl⟩,⟨_,rfl,.slE rfl (by rw [hll])⟩,⟨_,rfl,.slE rfl (by rw [hsl])⟩,⟨_,rfl,.w64 (by omega) ⟨by omega,by omega⟩⟩,trivial⟩) (by omega)
   ·have d1 : (ne != 0) = true := by simpa using n0
    have hse' := hse
    rw [if_pos n0] at hse'
    have hres := hstop (by rw [hse']; exact n0)
    rw [hse'] at hres
    obtain ⟨kind,name,lo,hi',ws,ls,vals,kids,⟨vk,vn,vs,vks⟩⟩ := x
    ((conv=>whnf);repeat(refine Xg ?_;conv=>whnf))
    repeat ((first | refine grd_mk bx ?_ | refine opt_mk ex ?_); ((conv=>whnf);repeat(refine Xg ?_;conv=>whnf)))
    refine hN.go ?_ (.cons (.int _ _) (.cons hxn .nil))
    ((conv=>whnf);repeat(refine Xg ?_;conv=>whnf))
    rw [d1]
    ((conv=>whnf);repeat(refine Xg ?_;conv=>whnf))
    exact hfin _ _ _ rfl (by rw [hvt,hres])
  ·have hin : i = ns.length := by simp at h; omega
   subst hin
   rw [List.take_length] at hv0
   ((conv=>whnf);repeat(refine Xg ?_;conv=>whnf))
   exact hfin _ _ _ rfl (by rw [hvt,hv0])
set_option maxHeartbeats 8000000
def zV : Val := .mk 0 0 [] []
def leafN (v : Val) : Nd := ⟨0,[],0,0,[],[],[],[],v⟩
def bindN (ns : List Nd) (l : List Int) (i k : Int) : Nd :=
 let b := atL (listsT (ns.take ((kidI l i 0).toNat + 1))) (kidI l i 0)
 if b.many = true ∨ 6 < b.vals.length then leafN (leafV k) else ⟨4,[],0,0,[],[],b.vals,kidI l i 0 :: (List.range b.vals.length).map fun j : Nat => kidI l i ((j : Int) + 1),zV⟩
theorem kidI_bound {l : List Int} {i j : Int} (hi : 1 ≤ i) : 0 ≤ kidI l i j ∧ kidI l i j < i := by
 unfold kidI
 have hp := pickI_bound (l := l) (i := 3 * i + j + 2) (most := 1000000) (by omega)
 split
 ·exact ⟨Int.tmod_nonneg _ (Int.tdiv_nonneg hp.1 (by omega)),Int.tmod_lt_of_pos _ (by omega)⟩
 ·have h0 : 0 ≤ ((pickI l (3 * i + j + 2) 1000000).tdiv 3).tmod 3 := Int.tmod_nonneg _ (Int.tdiv_nonneg hp.1 (by omega))
  omega
theorem oBind (ns : List Nd) (l : List Int) (k : Int) (hl : ∀ x ∈ l,i64 x) (h1 : 1 ≤ ns.length) (h2 : ns.length ≤ 1000) (hk0 : 0 ≤ k) (hk1 : k ≤ 1000000) (hg : ∀ (j : Nat) (x : Nd),ns[j]? = some x → GoodN j x) :
    ACalls Tryz.prog [] 24 [.agg [.sl 0 0 ns.length],.il 1 (encI l),.int .i64 ns.length,.int .i64 k] (tM ns) 1 fun r m _ => r = encN (bindN ns l ns.length k) ∧ m = tM ns := by
  have hfin : ∀ (x : Nd) (r : AV) (mem : Mem) (nx : Nat),lk mem 0 = some (.row 35 12 (encNs ns)) → Cv mem [(0,0)] r (encN x) → x = bindN ns l ns.length k → Fini 1 (fun r m (_ : Nat) => r = encN (bindN ns l ns.length k) ∧ m = tM ns) r mem nx := by
    intro x r mem nx h0 hr hx
    exact fin_mk (r' := encN x) (n' := 1) (m' := tM ns) [(0,0)] rfl ⟨⟨0,_,rfl,h0,.same (encNs_nn _)⟩,trivial⟩ hr ⟨by rw [hx],rfl⟩
  have hK0 := rKid l ns.length 0 hl (by omega) (by omega) (by omega) (by omega)
  obtain ⟨q1,q2⟩ := kidI_bound (l := l) (i := (ns.length : Int)) (j := 0) (by omega)
  obtain ⟨q,hq⟩ := Int.eq_ofNat_of_zero_le q1
  have hb : bindN ns l ns.length k = if (atL (listsT (ns.take (q + 1))) q).many = true ∨ 6 < (atL (listsT (ns.take (q + 1))) q).vals.length then leafN (leafV k) else ⟨4,[],0,0,[],[],(atL (listsT (ns.take (q + 1))) q).vals,(q : Int) :: (List.range (atL (listsT (ns.take (q + 1))) q).vals.length).map fun j : Nat => kidI l ns.length ((j : Int) + 1),zV⟩ := by
    unfold bindN
    simp only [hq,Int.toNat_natCast]
  have hV := oValues ns q (by omega) (by omega) fun j y _ hy => hg j y hy
  rw [hq] at hK0
  simp only [hb] at hfin ⊢
  generalize atL (listsT (ns.take (q + 1))) q = b at hV hfin ⊢
  obtain ⟨bv,bm⟩ := b
  simp only at hV hfin ⊢
  have hLf := rLeaf k hk0 hk1
  obtain ⟨⟨f1,f2,f3,f4⟩,hf⟩ : ∃ f,f = leafV k := ⟨_,rfl⟩
  rw [← hf] at hLf hfin ⊢
  have hleaf : ∀ (mem : Mem) (nx : Nat),lk mem 0 = some (.row 35 12 (encNs ns)) → (bm = true ∨ 6 < bv.length) → Fini 1 (fun r m (_ : Nat) => r = encN (if bm = true ∨ 6 < bv.length then leafN (.mk f1 f2 f3 f4) else ⟨4,[],0,0,[],[],bv,(q : Int) :: (List.range bv.length).map fun j : Nat => kidI l ns.length ((j : Int) + 1),zV⟩) ∧ m = tM ns)
      (.agg [.int .i64 0,.str [],.int .i64 0,.int .i64 0,.nsl,.nsl,.nsl,.nsl,.int .i64 f1,.int .i64 f2,.str f3,.il 4 (encVs f4)]) mem nx := by
    intro mem nx h0 hc
    refine hfin (leafN (.mk f1 f2 f3 f4)) _ mem nx h0 ?_ (by rw [if_pos hc])
    exact .agg' (.cons (.same _ nn) (.cons (.same _ nn) (.cons (.same _ nn) (.cons (.same _ nn) (.cons (.nil 1) (.cons (.nil 1) (.cons (.nil 4) (.cons (.nil 1) (.cons (.same _ nn) (.cons (.same _ nn) (.cons (.same _ nn) (.cons (.same _ nn) .nil))))))))))))
  refine acalls_go nnΓ Tryz.func24 rfl ?_
  ((conv=>whnf);repeat(refine Xg ?_;conv=>whnf))
  refine hK0.go ?_
  ((conv=>whnf);repeat(refine Xg ?_;conv=>whnf))
  refine ACalls.use1 nnΓ hV 0 rfl (encNs_nn _) (.cons (.agg' (.cons (.sl 0 0 0 _ rfl) .nil)) (.cons (.same _ nn) .nil)) ?_
  rintro r m k' ⟨rfl,rfl⟩
  refine ⟨_,rfl,nn,encNs_nn _, ?_⟩
  cases bm with
  | true =>
    ((conv=>whnf);repeat(refine Xg ?_;conv=>whnf))
    refine hLf.go ?_
    ((conv=>whnf);repeat(refine Xg ?_;conv=>whnf))
    exact hleaf _ _ rfl (.inl rfl)
  | false =>
    ((conv=>whnf);repeat(refine Xg ?_;conv=>whnf))
    refine bcs_mk (fun h => ?_) (fun h => ?_)
    · have h6 : 6 < bv.length := by rw [encVs_length] at h; simp at h; omega
      rw [h]
      ((conv=>whnf);repeat(refine Xg ?_;conv=>whnf))
      refine hLf.go ?_
      ((conv=>whnf);repeat(refine Xg ?_;conv=>whnf))
      exact hleaf _ _ rfl (.inr h6)
    · have h6 : ¬ 6 < bv.length := by rw [encVs_length] at h; simp at h; omega
      rw [h]
      ((conv=>whnf);repeat(refine Xg ?_;conv=>whnf))
      refine ALoop.at nnΓ (fun j : Nat => j ≤ bv.length)
        (fun j => ⟨[(1,.il 1 (encI l)),(2,.int .i64 ns.length),(8,.ptr 2 0 0),(10,.il 4 (encVs bv)),(12,.ptr 3 0 0),(13,.int .i64 j)],
          [(0,.row 35 12 (encNs ns)),(2,.row 35 12 [.agg [.int .i64 0,.str [],.int .i64 0,.int .i64 0,.nsl,.nsl,.nsl,.nsl,.int .i64 0,.int .i64 0,.str [],.nsl]]),
           (3,.row 35 12 [.agg [.int .i64 4,.str [],.int .i64 0,.int .i64 0,.nsl,.nsl,.il 4 (encVs bv),.sl 4 0 (j + 1),.int .i64 0,.int .i64 0,.str [],.nsl]]),(4,.row 3 1 (encI ((q : Int) :: (List.range j).map fun j : Nat => kidI l ns.length ((j : Int) + 1))))],5,54⟩)
        (fun j => bv.length - j) 0 [(0,0),(2,2),(4,3),(3,4)] (by simp)
        (conv_mk _ rfl ⟨⟨0,_,rfl,rfl,.same (encNs_nn _)⟩,⟨2,_,rfl,rfl,.same nns⟩,⟨4,_,rfl,rfl,.cons (.agg (.cons (.same _ nn) (.cons (.same _ nn) (.cons (.same _ nn) (.cons (.same _ nn) (.cons (.same _ nn) (.cons (.same _ nn) (.cons (.same _ nn) (.cons (.sl 3 4 0 1 rfl) (.cons (.same _ nn) (.cons (.same _ nn) (.cons (.same _ nn) (.cons (.same _ nn) .nil))))))))))))) .nil⟩,⟨3,_,rfl,rfl,.eq (encI_nn _) rfl⟩,trivial⟩
          ⟨⟨_,rfl,.same _ nn⟩,⟨_,rfl,.same _ nn⟩,⟨_,rfl,.ptr 2 2 0 0 rfl⟩,⟨_,rfl,.same _ nn⟩,⟨_,rfl,.ptr 4 3 0 0 rfl⟩,⟨_,rfl,.same _ nn⟩,trivial⟩) ?_
      intro j hj
      ((conv=>whnf);repeat(refine Xg ?_;conv=>whnf))
      refine bcs_mk (fun h => ?_) (fun h => ?_)
      · have hjl : j < bv.length := klt h
        have hw : IntKind.i64.wrap ((j : Int) + 1) = (j : Int) + 1 := wrap64 ⟨by omega,by omega⟩
        have hKj := rKid l ns.length ((j : Int) + 1) hl (by omega) (by omega) (by omega) (by omega)
        ((conv=>whnf);repeat(refine Xg ?_;conv=>whnf))
        rw [hw]
        refine hKj.go ?_
        ((conv=>whnf);repeat(refine Xg ?_;conv=>whnf))
        repeat (refine ⟨rfl, ?_⟩; ((conv=>whnf);repeat(refine Xg ?_;conv=>whnf)))
        refine grd_mk (app_ok rfl rfl (by rw [encI_length]; simp) (by simp; omega)) ?_
        ((conv=>whnf);repeat(refine Xg ?_;conv=>whnf))
        repeat (refine ⟨rfl, ?_⟩; ((conv=>whnf);repeat(refine Xg ?_;conv=>whnf)))
        exact .mk (j + 1) [(0,0),(2,2),(3,3),(16,4)] (by omega)
          (conv_mk _ rfl ⟨⟨0,_,rfl,rfl,.same (encNs_nn _)⟩,⟨2,_,rfl,rfl,.same nns⟩,⟨3,_,rfl,rfl,.cons (.agg (.cons (.same _ nn) (.cons (.same _ nn) (.cons (.same _ nn) (.cons (.same _ nn) (.cons (.same _ nn) (.cons (.same _ nn) (.cons (.same _ nn) (.cons (.slE rfl (by simp)) (.cons (.same _ nn) (.cons (.same _ nn) (.cons (.same _ nn) (.cons (.same _ nn) .nil))))))))))))) .nil⟩,⟨16,_,rfl,rfl,.eq (encI_nn _) (by rw [List.range_succ]; simp [encI])⟩,trivial⟩
            ⟨⟨_,rfl,.same _ nn⟩,⟨_,rfl,.same _ nn⟩,⟨_,rfl,.ptr 2 2 0 0 rfl⟩,⟨_,rfl,.same _ nn⟩,⟨_,rfl,.ptr 3 3 0 0 rfl⟩,⟨_,rfl,.w64 (by omega) ⟨by omega,by omega⟩⟩,trivial⟩) (by omega)
      · have hje : j = bv.length := by have := kge h; omega
        subst hje
        ((conv=>whnf);repeat(refine Xg ?_;conv=>whnf))
        refine hfin ⟨4,[],0,0,[],[],bv,(q : Int) :: (List.range bv.length).map fun j : Nat => kidI l ns.length ((j : Int) + 1),zV⟩ _ _ _ rfl ?_ (by rw [if_neg (by simp; omega)])
        exact .agg' (.cons (.same _ nn) (.cons (.same _ nn) (.cons (.same _ nn) (.cons (.same _ nn) (.cons (.nil 1) (.cons (.nil 1) (.cons (.same _ nn) (.cons (.fz' (id := 4) rfl rfl (by rw [encI_length]; simp) (by rw [List.drop_zero]; exact List.take_of_length_le (by rw [encI_length]; simp)) (encI_nn _)) (.cons (.same _ nn) (.cons (.same _ nn) (.cons (.same _ nn) (.cons (.nil 4) .nil))))))))))))
set_option maxHeartbeats 8000000
theorem mem_snoc {α : Type} {p : α → Prop} {l : List α} {y : α} (h : ∀ x ∈ l,p x) (hy : p y) : ∀ x ∈ l ++ [y],p x := fun x hx => by
 rcases List.mem_append.1 hx with hx | hx
 ·exact h x hx
 ·simp at hx; rw [hx]; exact hy
theorem bindN_gen {ns : List Nd} (hT : TreeOK ns) (h1 : 1 ≤ ns.length) (h2 : ns.length ≤ 1000) {l : List Int} {k : Int} (hk : 0 ≤ k) : GenN (bindN ns l ns.length k) := by
 have z0 : i64 0 := ⟨by omega,by omega⟩
 unfold bindN
 simp only
 split
 ·have := leafV_ok k hk
  exact genN_mk z0 (by simp) z0 z0 (by simp) (by simp) (by simp) (by simp) (by simp) (by simp) (by simp) (by simp) this.1 (by omega)
 ·rename_i hc
  rw [not_or] at hc
  have hb := fun j => kidI_bound (l := l) (i := (ns.length : Int)) (j := j) (by omega)
  obtain ⟨q0,q1⟩ := hb 0
  have hv : validF [] (ns.take ((kidI l ns.length 0).toNat + 1)) = 0 := validF_pre (r := ns.drop ((kidI l ns.length 0).toNat + 1)) (by rw [List.take_append_drop]; exact hT.valid)
  have ho : ∀ x ∈ ns.take ((kidI l ns.length 0).toNat + 1),okN x := fun x hx => hT.ok x (List.mem_of_mem_take hx)
  have hs := lists_small _ ho hv (kidI l ns.length 0) q0 (by simp; omega)
  have hg := atL_good (listsT_good _ (valid_good _ ho hv)) (kidI l ns.length 0)
  refine genN_mk ⟨by omega,by omega⟩ (by simp) z0 z0 (by simp) (by simp) (by simp) (by simp) (by omega) (fun v hv => ⟨hg.2 v hv,by have := hs v hv; omega⟩) (by simp; omega) (fun w hw => ?_) (okV_leaf z0 z0) (by simp [zV,sizeV,sizeL])
  rcases List.mem_cons.1 hw with rfl | hw
  ·exact ⟨by omega,by omega⟩
  ·obtain ⟨j,_,rfl⟩ := List.mem_map.1 hw
   have := hb ((j : Int) + 1)
   exact ⟨by omega,by omega⟩
theorem oTree (l : List Int) (hl : ∀ x ∈ l,i64 x) :
  ACalls Tryz.prog [] 6 [.il 1 (encI l)] [] 0 fun r m n => ∃ ns : List Nd,TreeOK ns ∧ ns.length ≤ 14 ∧ r = .agg [.sl 0 0 ns.length] ∧ m = tM ns ∧ n = 1 := by
 have z0 : i64 0 := ⟨by omega,by omega⟩
 have hP0 := rPick l 0 15 hl (by omega)
 obtain ⟨n0,n1⟩ := pickI_bound (l := l) (i := 0) (most := 15) (by omega)
 generalize pickI l 0 15 = nn0 at hP0 n0 n1
 obtain ⟨n,rfl⟩ := Int.eq_ofNat_of_zero_le n0
 refine acalls_go nnΓ Tryz.func6 rfl ?_
 ((conv=>whnf);repeat(refine Xg ?_;conv=>whnf))
 refine hP0.go ?_
 ((conv=>whnf);repeat(refine Xg ?_;conv=>whnf))
 refine ALoop.ph 35 12 ?_
 refine ALoop.at nnΓ (fun ns : List Nd => TreeOK ns ∧ ns.length ≤ n) (fun ns => ⟨[(0,.il 1 (encI l)),(2,.ptr 0 0 0),(3,.ptr 1 0 0),(4,.int .i64 n),(5,.int .i64 ns.length)],[(0,.row 25 1 [.agg [.nsl]]),(1,.row 25 1 [.agg [.sl 2 0 ns.length]]),(2,.row 35 12 (encNs ns))],3,181⟩) (fun ns => n - ns.length) [] [(0,0),(1,1),(2,2)] ⟨⟨by simp [validF],by simp⟩,by simp⟩
  (conv_mk _ rfl ⟨⟨0,_,rfl,rfl,.same nns⟩,⟨1,_,rfl,rfl,.cons (.agg (.cons (.nslk 2 2 _ rfl rfl) .nil)) .nil⟩,⟨2,_,rfl,rfl,.same .nil⟩,trivial⟩ ⟨⟨_,rfl,.same _ nn⟩,⟨_,rfl,.ptr 0 0 0 0 rfl⟩,⟨_,rfl,.ptr 1 1 0 0 rfl⟩,⟨_,rfl,.same _ nn⟩,⟨_,rfl,.same _ nn⟩,trivial⟩) ?_
 rintro ns ⟨hT,hns⟩
 ((conv=>whnf);repeat(refine Xg ?_;conv=>whnf))
 refine bcs_mk (fun h => ?_) (fun h => ?_)
 ·have hlt : ns.length < n := by simpa using h
  have hw1 : IntKind.i64.wrap (1 + (ns.length : Int)) = 1 + (ns.length : Int) := wrap64 ⟨by omega,by omega⟩
  have hPk := rPick l (1 + (ns.length : Int)) 1000000 hl (by omega)
  obtain ⟨kk0,kk1⟩ := pickI_bound (l := l) (i := 1 + (ns.length : Int)) (most := 1000000) (by omega)
  generalize pickI l (1 + (ns.length : Int)) 1000000 = kk at hPk kk0 kk1
  have m8 := tmod_lt kk0 (show (0 : Int) < 8 by omega)
  have q8 := tdiv_le kk0 (show (0 : Int) < 8 by omega)
  have q80 : 0 ≤ kk.tdiv 8 := Int.tdiv_nonneg kk0 (by omega)
  have hw8 : IntKind.i64.wrap (kk.tdiv 8) = kk.tdiv 8 := wrap64 ⟨by omega,by omega⟩
  have m82 := tmod_lt q80 (show (0 : Int) < 2 by omega)
  ((conv=>whnf);repeat(refine Xg ?_;conv=>whnf))
  rw [hw1]
  refine hPk.go ?_
  by_cases hi2 : ns.length < 2
  ·have d2 : decide ((ns.length : Int) < 2) = true := by simp; omega
   ((conv=>whnf);repeat(refine Xg ?_;conv=>whnf))
   rw [d2]
   ((conv=>whnf);repeat(refine Xg ?_;conv=>whnf))
   rw [hw8]
   obtain ⟨kd,hkd⟩ : ∃ kd,kd = (kk.tdiv 8).tmod 2 := ⟨_,rfl⟩
   rw [← hkd] at m82 ⊢
   have d5 : decide (kd > 5) = false := by simp; omega
   ((conv=>whnf);repeat(refine Xg ?_;conv=>whnf))
   rw [d5]
   ((conv=>whnf);repeat(refine Xg ?_;conv=>whnf))
   refine bcs_join nnΓ (fun x : Nd => GenN x) (fun x => ⟨[(0,.il 1 (encI l)),(2,.ptr 0 0 0),(3,.ptr 1 0 0),(4,.int .i64 n),(5,.int .i64 ns.length),(6,.int .i64 kk),(7,.ptr 3 0 0)],[(0,.row 25 1 [.agg [.nsl]]),(1,.row 25 1 [.agg [.sl 2 0 ns.length]]),(2,.row 35 12 (encNs ns)),(3,.row 35 12 [encN x])],4,181⟩) (fun Qr hQ => ?_) (fun x hx => ?_)
   ·rcases (show kd = 0 ∨ kd = 1 by omega) with rfl | rfl
    ·have hLf := rLeaf (kk.tdiv 8) (Int.tdiv_nonneg kk0 (by omega)) (by have := tdiv_le kk0 (show (0 : Int) < 8 by omega); omega)
     have hlo := leafV_ok (kk.tdiv 8) (Int.tdiv_nonneg kk0 (by omega))
     generalize leafV (kk.tdiv 8) = f at hLf hlo
     obtain ⟨f1,f2,f3,f4⟩ := f
     ((conv=>whnf);repeat(refine Xg ?_;conv=>whnf))
     rw [hw8]
     refine hLf.go ?_
     ((conv=>whnf);repeat(refine Xg ?_;conv=>whnf))
     exact hQ (leafN (.mk f1 f2 f3 f4)) _ [(0,0),(1,1),(2,2),(3,3)] (genN_mk z0 (by simp) z0 z0 (by simp) (by simp) (by simp) (by simp) (by simp) (by simp) (by simp) (by simp) hlo.1 (by omega)) (conv_mk _ rfl ⟨⟨0,_,rfl,rfl,.same nns⟩,⟨1,_,rfl,rfl,.cons (.agg (.cons (.sl 2 2 0 _ rfl) .nil)) .nil⟩,⟨2,_,rfl,rfl,.same (encNs_nn _)⟩,⟨3,_,rfl,rfl,.cons (.agg (.cons (.same _ nn) (.cons (.same _ nn) (.cons (.same _ nn) (.cons (.same _ nn) (.cons (.nil 1) (.cons (.nil 1) (.cons (.nil 4) (.cons (.nil 1) (.cons (.same _ nn) (.cons (.same _ nn) (.cons (.same _ nn) (.cons (.same _ nn) .nil))))))))))))) .nil⟩,trivial⟩ ⟨⟨_,rfl,.same _ nn⟩,⟨_,rfl,.ptr 0 0 0 0 rfl⟩,⟨_,rfl,.ptr 1 1 0 0 rfl⟩,⟨_,rfl,.same _ nn⟩,⟨_,rfl,.same _ nn⟩,⟨_,rfl,.same _ nn⟩,⟨_,rfl,.ptr 3 3 0 0 rfl⟩,trivial⟩)
    ·((conv=>whnf);repeat(refine Xg ?_;conv=>whnf))
     refine bcs_mk (fun h => ?_) (fun h => ?_)
     ·((conv=>whnf);repeat(refine Xg ?_;conv=>whnf))
      exact hQ ⟨1,[],_,_,[],[],[],[],zV⟩ _ [(0,0),(1,1),(2,2),(3,3)] (genN_mk ⟨by omega,by omega⟩ (by simp) (i64w _) (i64w _) (by simp) (by simp) (by simp) (by simp) (by simp) (by simp) (by simp) (by simp) (okV_leaf z0 z0) (by simp [zV,sizeV,sizeL])) (conv_mk _ rfl ⟨⟨0,_,rfl,rfl,.same nns⟩,⟨1,_,rfl,rfl,.cons (.agg (.cons (.sl 2 2 0 _ rfl) .nil)) .nil⟩,⟨2,_,rfl,rfl,.same (encNs_nn _)⟩,⟨3,_,rfl,rfl,.cons (.agg (.cons (.same _ nn) (.cons (.same _ nn) (.cons (.same _ nn) (.cons (.same _ nn) (.cons (.nil 1) (.cons (.nil 1) (.cons (.nil 4) (.cons (.nil 1) (.cons (.same _ nn) (.cons (.same _ nn) (.cons (.same _ nn) (.cons (.nil 4) .nil))))))))))))) .nil⟩,trivial⟩ ⟨⟨_,rfl,.same _ nn⟩,⟨_,rfl,.ptr 0 0 0 0 rfl⟩,⟨_,rfl,.ptr 1 1 0 0 rfl⟩,⟨_,rfl,.same _ nn⟩,⟨_,rfl,.same _ nn⟩,⟨_,rfl,.same _ nn⟩,⟨_,rfl,.ptr 3 3 0 0 rfl⟩,trivial⟩)
     ·((conv=>whnf);repeat(refine Xg ?_;conv=>whnf))
      exact hQ ⟨1,[],_,_,[],[],[],[],zV⟩ _ [(0,0),(1,1),(2,2),(3,3)] (genN_mk ⟨by omega,by omega⟩ (by simp) (i64w _) (i64w _) (by simp) (by simp) (by simp) (by simp) (by simp) (by simp) (by simp) (by simp) (okV_leaf z0 z0) (by simp [zV,sizeV,sizeL])) (conv_mk _ rfl ⟨⟨0,_,rfl,rfl,.same nns⟩,⟨1,_,rfl,rfl,.cons (.agg (.cons (.sl 2 2 0 _ rfl) .nil)) .nil⟩,⟨2,_,rfl,rfl,.same (encNs_nn _)⟩,⟨3,_,rfl,rfl,.cons (.agg (.cons (.same _ nn) (.cons (.same _ nn) (.cons (.same _ nn) (.cons (.same _ nn) (.cons (.nil 1) (.cons (.nil 1) (.cons (.nil 4) (.cons (.nil 1) (.cons (.same _ nn) (.cons (.same _ nn) (.cons (.same _ nn) (.cons (.nil 4) .nil))))))))))))) .nil⟩,trivial⟩ ⟨⟨_,rfl,.same _ nn⟩,⟨_,rfl,.ptr 0 0 0 0 rfl⟩,⟨_,rfl,.ptr 1 1 0 0 rfl⟩,⟨_,rfl,.same _ nn⟩,⟨_,rfl,.same _ nn⟩,⟨_,rfl,.same _ nn⟩,⟨_,rfl,.ptr 3 3 0 0 rfl⟩,trivial⟩)
   ·have hxn := encN_nn x
    have hV := oValid (ns ++ [x]) (by simp; omega) (fun y hy => by
     rcases List.mem_append.1 hy with hy | hy
     ·have := hT.gen y hy; exact ⟨this.ok,by have := this.vals; omega⟩
     ·simp at hy; rw [hy]; exact ⟨hx.ok,by have := hx.vals; omega⟩)
    have hnn2 := encNs_nn (ns ++ [x])
    have eTk : List.take ns.length (List.drop 0 (encNs ns)) = encNs ns := by rw [List.drop_zero]; exact List.take_of_length_le (by rw [encNs_length]; omega)
    have hxs : encNs (ns ++ [x]) = encNs ns ++ [encN x] := by simp [encNs]
    have hsn := fun h => hT.snoc (x := x) (by omega) hx h
    have hw5 := tmod_lt kk0 (show (0 : Int) < 5 by omega)
    have hlf := hT.leaf (m := kk.tmod 5) ⟨by omega,by omega⟩
    obtain ⟨e,he⟩ : ∃ e,e = validT (ns ++ [x]) := ⟨_,rfl⟩
    rw [← he] at hV hsn
    obtain ⟨kind,name,lo,hi,ws,ls,vals,kids,⟨vk,vn,vs,vks⟩⟩ := x
    ((conv=>whnf);repeat(refine Xg ?_;conv=>whnf))
    refine grd_mk (src_ok (by rw [encNs_length]; omega)) ?_
    rw [eTk]
    ((conv=>whnf);repeat(refine Xg ?_;conv=>whnf))
    refine grd_mk (app_nil rfl (by rw [encNs_length]; omega)) ?_
    ((conv=>whnf);repeat(refine Xg ?_;conv=>whnf))
    refine grd_mk (app_ok rfl rfl rfl (by rw [encNs_length]; simp; omega)) ?_
    ((conv=>whnf);repeat(refine Xg ?_;conv=>whnf))
    refine ACalls.useN nnΓ [(7,0)] hV rfl (.cons (.agg' (.cons (.slE rfl (by rw [encNs_length]; simp)) .nil)) .nil) ⟨⟨7,_,rfl,rfl,.eq hnn2 (by rw [hxs]; rfl)⟩,trivial⟩ rfl ?_
    rintro r m k' ⟨rfl,rfl⟩
    refine ⟨[(0,7)],_,[(7,.row 35 12 (encNs (ns ++ [⟨kind,name,lo,hi,ws,ls,vals,kids,.mk vk vn vs vks⟩])))],8,.same _ nn,⟨⟨0,_,rfl,rfl,.same hnn2⟩,trivial⟩,rfl, ?_⟩
    by_cases e0 : e = 0
    ·subst e0
     ((conv=>whnf);repeat(refine Xg ?_;conv=>whnf))
     exact .mk (ns ++ [⟨kind,name,lo,hi,ws,ls,vals,kids,.mk vk vn vs vks⟩]) [(0,0),(1,1),(7,2)] ⟨hsn rfl,by simp; omega⟩
      (conv_mk _ rfl ⟨⟨0,_,rfl,rfl,.same nns⟩,⟨1,_,rfl,rfl,.cons (.agg (.cons (.slE rfl (by rw [encNs_length]; simp)) .nil)) .nil⟩,⟨7,_,rfl,rfl,.same hnn2⟩,trivial⟩ ⟨⟨_,rfl,.same _ nn⟩,⟨_,rfl,.ptr 0 0 0 0 rfl⟩,⟨_,rfl,.ptr 1 1 0 0 rfl⟩,⟨_,rfl,.same _ nn⟩,⟨_,rfl,.w64 (by simp) ⟨by simp; omega,by simp; omega⟩⟩,trivial⟩) (by simp; omega)
    ·have de : (e == 0) = false := by simpa using e0
     ((conv=>whnf);repeat(refine Xg ?_;conv=>whnf))
     rw [de]
     ((conv=>whnf);repeat(refine Xg ?_;conv=>whnf))
     refine grd_mk (app_ok rfl rfl (by rw [encNs_length]) (by simp; omega)) ?_
     ((conv=>whnf);repeat(refine Xg ?_;conv=>whnf))
     have hlx : encNs (ns ++ [⟨0,[],0,0,[],[],[],[],.mk 0 (kk.tmod 5) [] []⟩]) = encNs ns ++ [encN ⟨0,[],0,0,[],[],[],[],.mk 0 (kk.tmod 5) [] []⟩] := by simp [encNs]
     exact .mk (ns ++ [⟨0,[],0,0,[],[],[],[],.mk 0 (kk.tmod 5) [] []⟩]) [(0,0),(1,1),(9,2)] ⟨hlf,by simp; omega⟩
      (conv_mk _ rfl ⟨⟨0,_,rfl,rfl,.same nns⟩,⟨1,_,rfl,rfl,.cons (.agg (.cons (.slE rfl (by simp)) .nil)) .nil⟩,⟨9,_,rfl,rfl,by rw [hlx]; exact .snoc rfl (.same (encNs_nn _)) (.agg (.cons (.same _ nn) (.cons (.same _ nn) (.cons (.same _ nn) (.cons (.same _ nn) (.cons (.nil 1) (.cons (.nil 1) (.cons (.nil 4) (.cons (.nil 1) (.cons (.same _ nn) (.cons (.same _ nn) (.cons (.same _ nn) (.cons (.nil 4) .nil)))))))))))))⟩,trivial⟩ ⟨⟨_,rfl,.same _ nn⟩,⟨_,rfl,.ptr 0 0 0 0 rfl⟩,⟨_,rfl,.ptr 1 1 0 0 rfl⟩,⟨_,rfl,.same _ nn⟩,⟨_,rfl,.w64 (by simp) ⟨by simp; omega,by simp; omega⟩⟩,trivial⟩) (by simp; omega)
  ·have d2 : decide ((ns.length : Int) < 2) = false := by simp; omega
   ((conv=>whnf);repeat(refine Xg ?_;conv=>whnf))
   rw [d2]
   ((conv=>whnf);repeat(refine Xg ?_;conv=>whnf))
   have hkd5 : (kk.tmod 8 == 5) = false ∨ (kk.tmod 8 == 5) = true := by cases (kk.tmod 8 == 5) <;> simp
   rcases hkd5 with e5 | e5
   ·have n5 : kk.tmod 8 ≠ 5 := by simpa using e5
    obtain ⟨k8,hk8⟩ : ∃ k8,k8 = kk.tmod 8 := ⟨_,rfl⟩
    rw [← hk8] at e5 n5 m8 ⊢
    rcases (show k8 < 5 ∨ 5 < k8 by omega) with k5 | k5
    ·have d5 : decide (k8 > 5) = false := by simp; omega
     rw [e5]
     ((conv=>whnf);repeat(refine Xg ?_;conv=>whnf))
     rw [d5]
     ((conv=>whnf);repeat(refine Xg ?_;conv=>whnf))
     obtain ⟨kd,hkd⟩ : ∃ kd,kd = k8 := ⟨_,rfl⟩
     rw [← hkd] at k5 m8 ⊢
     refine bcs_join nnΓ (fun x : Nd => GenN x) (fun x => ⟨[(0,.il 1 (encI l)),(2,.ptr 0 0 0),(3,.ptr 1 0 0),(4,.int .i64 n),(5,.int .i64 ns.length),(6,.int .i64 kk),(7,.ptr 3 0 0)],[(0,.row 25 1 [.agg [.nsl]]),(1,.row 25 1 [.agg [.sl 2 0 ns.length]]),(2,.row 35 12 (encNs ns)),(3,.row 35 12 [encN x])],4,181⟩) (fun Qr hQ => ?_) (fun x hx => ?_)
     ·rcases (show kd = 0 ∨ kd = 1 ∨ kd = 2 ∨ kd = 3 ∨ kd = 4 by omega) with rfl | rfl | rfl | rfl | rfl
      ·have hLf := rLeaf (kk.tdiv 8) (Int.tdiv_nonneg kk0 (by omega)) (by have := tdiv_le kk0 (show (0 : Int) < 8 by omega); omega)
       have hlo := leafV_ok (kk.tdiv 8) (Int.tdiv_nonneg kk0 (by omega))
       generalize leafV (kk.tdiv 8) = f at hLf hlo
       obtain ⟨f1,f2,f3,f4⟩ := f
       ((conv=>whnf);repeat(refine Xg ?_;conv=>whnf))
       rw [hw8]
       refine hLf.go ?_
       ((conv=>whnf);repeat(refine Xg ?_;conv=>whnf))
       exact hQ (leafN (.mk f1 f2 f3 f4)) _ [(0,0),(1,1),(2,2),(3,3)] (genN_mk z0 (by simp) z0 z0 (by simp) (by simp) (by simp) (by simp) (by simp) (by simp) (by simp) (by simp) hlo.1 (by omega)) (conv_mk _ rfl ⟨⟨0,_,rfl,rfl,.same nns⟩,⟨1,_,rfl,rfl,.cons (.agg (.cons (.sl 2 2 0 _ rfl) .nil)) .nil⟩,⟨2,_,rfl,rfl,.same (encNs_nn _)⟩,⟨3,_,rfl,rfl,.cons (.agg (.cons (.same _ nn) (.cons (.same _ nn) (.cons (.same _ nn) (.cons (.same _ nn) (.cons (.nil 1) (.cons (.nil 1) (.cons (.nil 4) (.cons (.nil 1) (.cons (.same _ nn) (.cons (.same _ nn) (.cons (.same _ nn) (.cons (.same _ nn) .nil))))))))))))) .nil⟩,trivial⟩ ⟨⟨_,rfl,.same _ nn⟩,⟨_,rfl,.ptr 0 0 0 0 rfl⟩,⟨_,rfl,.ptr 1 1 0 0 rfl⟩,⟨_,rfl,.same _ nn⟩,⟨_,rfl,.same _ nn⟩,⟨_,rfl,.same _ nn⟩,⟨_,rfl,.ptr 3 3 0 0 rfl⟩,trivial⟩)
      ·((conv=>whnf);repeat(refine Xg ?_;conv=>whnf))
       refine bcs_mk (fun h => ?_) (fun h => ?_)
       ·((conv=>whnf);repeat(refine Xg ?_;conv=>whnf))
        exact hQ ⟨1,[],_,_,[],[],[],[],zV⟩ _ [(0,0),(1,1),(2,2),(3,3)] (genN_mk ⟨by omega,by omega⟩ (by simp) (i64w _) (i64w _) (by simp) (by simp) (by simp) (by simp) (by simp) (by simp) (by simp) (by simp) (okV_leaf z0 z0) (by simp [zV,sizeV,sizeL])) (conv_mk _ rfl ⟨⟨0,_,rfl,rfl,.same nns⟩,⟨1,_,rfl,rfl,.cons (.agg (.cons (.sl 2 2 0 _ rfl) .nil)) .nil⟩,⟨2,_,rfl,rfl,.same (encNs_nn _)⟩,⟨3,_,rfl,rfl,.cons (.agg (.cons (.same _ nn) (.cons (.same _ nn) (.cons (.same _ nn) (.cons (.same _ nn) (.cons (.nil 1) (.cons (.nil 1) (.cons (.nil 4) (.cons (.nil 1) (.cons (.same _ nn) (.cons (.same _ nn) (.cons (.same _ nn) (.cons (.nil 4) .nil))))))))))))) .nil⟩,trivial⟩ ⟨⟨_,rfl,.same _ nn⟩,⟨_,rfl,.ptr 0 0 0 0 rfl⟩,⟨_,rfl,.ptr 1 1 0 0 rfl⟩,⟨_,rfl,.same _ nn⟩,⟨_,rfl,.same _ nn⟩,⟨_,rfl,.same _ nn⟩,⟨_,rfl,.ptr 3 3 0 0 rfl⟩,trivial⟩)
       ·((conv=>whnf);repeat(refine Xg ?_;conv=>whnf))
        exact hQ ⟨1,[],_,_,[],[],[],[],zV⟩ _ [(0,0),(1,1),(2,2),(3,3)] (genN_mk ⟨by omega,by omega⟩ (by simp) (i64w _) (i64w _) (by simp) (by simp) (by simp) (by simp) (by simp) (by simp) (by simp) (by simp) (okV_leaf z0 z0) (by simp [zV,sizeV,sizeL])) (conv_mk _ rfl ⟨⟨0,_,rfl,rfl,.same nns⟩,⟨1,_,rfl,rfl,.cons (.agg (.cons (.sl 2 2 0 _ rfl) .nil)) .nil⟩,⟨2,_,rfl,rfl,.same (encNs_nn _)⟩,⟨3,_,rfl,rfl,.cons (.agg (.cons (.same _ nn) (.cons (.same _ nn) (.cons (.same _ nn) (.cons (.same _ nn) (.cons (.nil 1) (.cons (.nil 1) (.cons (.nil 4) (.cons (.nil 1) (.cons (.same _ nn) (.cons (.same _ nn) (.cons (.same _ nn) (.cons (.nil 4) .nil))))))))))))) .nil⟩,trivial⟩ ⟨⟨_,rfl,.same _ nn⟩,⟨_,rfl,.ptr 0 0 0 0 rfl⟩,⟨_,rfl,.ptr 1 1 0 0 rfl⟩,⟨_,rfl,.same _ nn⟩,⟨_,rfl,.same _ nn⟩,⟨_,rfl,.same _ nn⟩,⟨_,rfl,.ptr 3 3 0 0 rfl⟩,trivial⟩)
      ·((conv=>whnf);repeat(refine Xg ?_;conv=>whnf))
       rcases (show decide ((IntKind.i64.wrap (kk.tdiv 32)).tmod 3 > 0) = true ∨ decide ((IntKind.i64.wrap (kk.tdiv 32)).tmod 3 > 0) = false by cases decide ((IntKind.i64.wrap (kk.tdiv 32)).tmod 3 > 0) <;> simp) with hB | hB
       ·have hB : decide ((IntKind.i64.wrap (kk.tdiv 32)).tmod 3 > 0) = true := hB
        refine ALoop.ph 3 1 ?_
        refine ALoop.ph 3 1 ?_
        refine ALoop.ph 9 1 ?_
        refine ALoop.at nnΓ (fun a : List Int × List (List UInt8) × List Int => a.1.length ≤ 4 ∧ a.2.2.length = a.1.length ∧ (∀ w ∈ a.1,i64 w) ∧ (∀ w ∈ a.2.2,i64 w) ∧ (∀ s ∈ a.2.1,s ∈ abcd) ∧ a.2.1.length = a.1.length)
         (fun a => ⟨[(0,.il 1 (encI l)),(2,.ptr 0 0 0),(3,.ptr 1 0 0),(4,.int .i64 n),(5,.int .i64 ns.length),(6,.int .i64 kk),(7,.ptr 3 0 0),(8,.int .i64 a.1.length)],[(0,.row 25 1 [.agg [.nsl]]),(1,.row 25 1 [.agg [.sl 2 0 ns.length]]),(2,.row 35 12 (encNs ns)),(3,.row 35 12 [.agg [.int .i64 2,.str [],.int .i64 0,.int .i64 0,.sl 4 0 a.1.length,.sl 6 0 a.1.length,.nsl,.sl 5 0 a.1.length,.int .i64 0,.int .i64 0,.str [],.nsl]]),(4,.row 3 1 (encI a.1)),(5,.row 3 1 (encI a.2.2)),(6,.row 9 1 (encS a.2.1))],7,181⟩)
         (fun a => 4 - a.1.length) ([],[],[]) [(0,0),(1,1),(2,2),(3,3),(4,4),(5,5),(6,6)] (by simp)
         (conv_mk _ rfl ⟨⟨0,_,rfl,rfl,.same nns⟩,⟨1,_,rfl,rfl,.cons (.agg (.cons (.sl 2 2 0 _ rfl) .nil)) .nil⟩,⟨2,_,rfl,rfl,.same (encNs_nn _)⟩,⟨3,_,rfl,rfl,.cons (.agg (.cons (.same _ nn) (.cons (.same _ nn) (.cons (.same _ nn) (.cons (.same _ nn) (.cons (.nslk 4 4 _ rfl rfl) (.cons (.nslk 6 6 _ rfl rfl) (.cons (.same _ nn) (.cons (.nslk 5 5 _ rfl rfl) (.cons (.same _ nn) (.cons (.same _ nn) (.cons (.same _ nn) (.cons (.same _ nn) .nil))))))))))))) .nil⟩,⟨4,_,rfl,rfl,.same .nil⟩,⟨5,_,rfl,rfl,.same .nil⟩,⟨6,_,rfl,rfl,.same .nil⟩,trivial⟩ ⟨⟨_,rfl,.same _ nn⟩,⟨_,rfl,.ptr 0 0 0 0 rfl⟩,⟨_,rfl,.ptr 1 1 0 0 rfl⟩,⟨_,rfl,.same _ nn⟩,⟨_,rfl,.same _ nn⟩,⟨_,rfl,.same _ nn⟩,⟨_,rfl,.ptr 3 3 0 0 rfl⟩,⟨_,rfl,.same _ nn⟩,trivial⟩) ?_
        rintro ⟨wl,ll,kl⟩ ⟨j1,j2,j3,j4,j5,j6⟩
        simp only at j1 j2 j3 j4 j5 j6
        ((conv=>whnf);repeat(refine Xg ?_;conv=>whnf))
        refine bcs_mk (fun h => ?_) (fun h => ?_)
        ·have hjc : wl.length < 4 := by rw [hw8] at h; have := tmod_lt q80 (show (0 : Int) < 4 by omega); simp at h; omega
         have hwj : IntKind.i64.wrap ((ns.length : Int) + (wl.length : Int)) = (ns.length : Int) + wl.length := wrap64 ⟨by omega,by omega⟩
         have hPj := rPick l ((ns.length : Int) + wl.length) 5 hl (by omega)
         have hPb := pickI_bound (l := l) (i := (ns.length : Int) + wl.length) (most := 5) (by omega)
         generalize pickI l ((ns.length : Int) + wl.length) 5 = pw at hPj hPb
         have hKj := rKid l ns.length wl.length hl (by omega) (by omega) (by omega) (by omega)
         have hKb := kidI_bound (l := l) (i := (ns.length : Int)) (j := (wl.length : Int)) (by omega)
         generalize kidI l ns.length wl.length = kw at hKj hKb
         ((conv=>whnf);repeat(refine Xg ?_;conv=>whnf))
         rw [hwj]
         refine hPj.go ?_
         ((conv=>whnf);repeat(refine Xg ?_;conv=>whnf))
         repeat (refine ⟨rfl, ?_⟩; ((conv=>whnf);repeat(refine Xg ?_;conv=>whnf)))
         refine grd_mk (app_ok rfl rfl (by rw [encI_length]) (by simp; omega)) ?_
         ((conv=>whnf);repeat(refine Xg ?_;conv=>whnf))
         repeat (refine ⟨rfl, ?_⟩; ((conv=>whnf);repeat(refine Xg ?_;conv=>whnf)))
         refine hKj.go ?_
         ((conv=>whnf);repeat(refine Xg ?_;conv=>whnf))
         repeat (refine ⟨rfl, ?_⟩; ((conv=>whnf);repeat(refine Xg ?_;conv=>whnf)))
         refine grd_mk (app_ok rfl rfl (by rw [encI_length,j2]) (by simp; omega)) ?_
         ((conv=>whnf);repeat(refine Xg ?_;conv=>whnf))
         repeat (refine ⟨rfl, ?_⟩; ((conv=>whnf);repeat(refine Xg ?_;conv=>whnf)))
         rw [hB]
         ((conv=>whnf);repeat(refine Xg ?_;conv=>whnf))
         obtain ⟨qn,hqn,hqe⟩ : ∃ qn : Nat,qn < 4 ∧ (IntKind.i64.wrap ((wl.length : Int) + IntKind.i64.wrap (kk.tdiv 96))).tmod 4 = (qn : Int) := by
          have a0 := tdiv_le kk0 (show (0 : Int) < 96 by omega)
          have a1 : 0 ≤ kk.tdiv 96 := Int.tdiv_nonneg kk0 (by omega)
          have e1 : IntKind.i64.wrap (kk.tdiv 96) = kk.tdiv 96 := wrap64 ⟨by omega,by omega⟩
          have e2 : IntKind.i64.wrap ((wl.length : Int) + kk.tdiv 96) = (wl.length : Int) + kk.tdiv 96 := wrap64 ⟨by omega,by omega⟩
          rw [e1,e2]
          have := tmod_lt (show 0 ≤ (wl.length : Int) + kk.tdiv 96 by omega) (show (0 : Int) < 4 by omega)
          exact ⟨(((wl.length : Int) + kk.tdiv 96).tmod 4).toNat,by omega,by omega⟩
         obtain ⟨sa,hsa,hsm⟩ : ∃ sa,([AV.str [97],AV.str [98],AV.str [99],AV.str [100]])[0 + ((qn : Nat) : Int).toNat]? = some (.str sa) ∧ sa ∈ abcd := by
          rcases (show qn = 0 ∨ qn = 1 ∨ qn = 2 ∨ qn = 3 by omega) with rfl | rfl | rfl | rfl
          ·exact ⟨[97],rfl,by simp [abcd]⟩
          ·exact ⟨[98],rfl,by simp [abcd]⟩
          ·exact ⟨[99],rfl,by simp [abcd]⟩
          ·exact ⟨[100],rfl,by simp [abcd]⟩
         have bsa : Nat.blt ((qn : Nat) : Int).toNat 4 = true := Nat.ble_eq_true_of_le (by simp; omega)
         rw [hqe]
         ((conv=>whnf);repeat(refine Xg ?_;conv=>whnf))
         repeat ((first | refine ⟨rfl, ?_⟩ | refine grd_mk bsa ?_ | refine opt_mk hsa ?_); ((conv=>whnf);repeat(refine Xg ?_;conv=>whnf)))
         refine grd_mk (app_ok rfl rfl (by rw [encS_length,j6]) (by simp; omega)) ?_
         ((conv=>whnf);repeat(refine Xg ?_;conv=>whnf))
         repeat ((first | refine ⟨rfl, ?_⟩ | refine grd_mk bsa ?_ | refine opt_mk hsa ?_); ((conv=>whnf);repeat(refine Xg ?_;conv=>whnf)))
         exact .mk (wl ++ [IntKind.i64.wrap (1 + pw)],ll ++ [sa],kl ++ [kw]) [(0,0),(1,1),(2,2),(3,3),(19,4),(30,5),(45,6)] ⟨by simp; omega,by simp; omega,mem_snoc j3 (i64w _),mem_snoc j4 ⟨by omega,by omega⟩,mem_snoc j5 hsm,by simp; omega⟩
          (conv_mk _ rfl ⟨⟨0,_,rfl,rfl,.same nns⟩,⟨1,_,rfl,rfl,.cons (.agg (.cons (.sl 2 2 0 _ rfl) .nil)) .nil⟩,⟨2,_,rfl,rfl,.same (encNs_nn _)⟩,⟨3,_,rfl,rfl,.cons (.agg (.cons (.same _ nn) (.cons (.same _ nn) (.cons (.same _ nn) (.cons (.same _ nn) (.cons (.slE rfl (by simp)) (.cons (.slE rfl (by simp)) (.cons (.same _ nn) (.cons (.slE rfl (by simp)) (.cons (.same _ nn) (.cons (.same _ nn) (.cons (.same _ nn) (.cons (.same _ nn) .nil))))))))))))) .nil⟩,⟨19,_,rfl,rfl,.eq (encI_nn _) (by simp [encI])⟩,⟨30,_,rfl,rfl,.eq (encI_nn _) (by simp [encI])⟩,⟨45,_,rfl,rfl,.eq (encS_nn _) (by simp [encS])⟩,trivial⟩ ⟨⟨_,rfl,.same _ nn⟩,⟨_,rfl,.ptr 0 0 0 0 rfl⟩,⟨_,rfl,.ptr 1 1 0 0 rfl⟩,⟨_,rfl,.same _ nn⟩,⟨_,rfl,.same _ nn⟩,⟨_,rfl,.same _ nn⟩,⟨_,rfl,.ptr 3 3 0 0 rfl⟩,⟨_,rfl,.w64 (by simp) ⟨by simp; omega,by simp; omega⟩⟩,trivial⟩) (by simp; omega)
        ·((conv=>whnf);repeat(refine Xg ?_;conv=>whnf))
         exact hQ ⟨2,[],0,0,wl,ll,[],kl,zV⟩ _ [(0,0),(1,1),(2,2),(3,3)] (genN_mk ⟨by omega,by omega⟩ (by simp) z0 z0 (by omega) j3 (by omega) j5 (by simp) (by simp) (by omega) j4 (okV_leaf z0 z0) (by simp [zV,sizeV,sizeL])) (conv_mk _ rfl ⟨⟨0,_,rfl,rfl,.same nns⟩,⟨1,_,rfl,rfl,.cons (.agg (.cons (.sl 2 2 0 _ rfl) .nil)) .nil⟩,⟨2,_,rfl,rfl,.same (encNs_nn _)⟩,⟨3,_,rfl,rfl,.cons (.agg (.cons (.same _ nn) (.cons (.same _ nn) (.cons (.same _ nn) (.cons (.same _ nn) (.cons (.fz' (id := 4) rfl rfl (by rw [encI_length]; first | omega | (simp only; omega)) (by rw [List.drop_zero]; exact List.take_of_length_le (by rw [encI_length]; first | omega | (simp only; omega))) (encI_nn _)) (.cons (.fz' (id := 6) rfl rfl (by rw [encS_length]; first | omega | (simp only; omega)) (by rw [List.drop_zero]; exact List.take_of_length_le (by rw [encS_length]; first | omega | (simp only; omega))) (encS_nn _)) (.cons (.nil 4) (.cons (.fz' (id := 5) rfl rfl (by rw [encI_length]; first | omega | (simp only; omega)) (by rw [List.drop_zero]; exact List.take_of_length_le (by rw [encI_length]; first | omega | (simp only; omega))) (encI_nn _)) (.cons (.same _ nn) (.cons (.same _ nn) (.cons (.same _ nn) (.cons (.nil 4) .nil))))))))))))) .nil⟩,trivial⟩ ⟨⟨_,rfl,.same _ nn⟩,⟨_,rfl,.ptr 0 0 0 0 rfl⟩,⟨_,rfl,.ptr 1 1 0 0 rfl⟩,⟨_,rfl,.same _ nn⟩,⟨_,rfl,.same _ nn⟩,⟨_,rfl,.same _ nn⟩,⟨_,rfl,.ptr 3 3 0 0 rfl⟩,trivial⟩)
       ·have hB : decide ((IntKind.i64.wrap (kk.tdiv 32)).tmod 3 > 0) = false := hB
        refine ALoop.ph 3 1 ?_
        refine ALoop.ph 3 1 ?_
        refine ALoop.at nnΓ (fun a : List Int × List (List UInt8) × List Int => a.1.length ≤ 4 ∧ a.2.2.length = a.1.length ∧ (∀ w ∈ a.1,i64 w) ∧ (∀ w ∈ a.2.2,i64 w) ∧ (∀ s ∈ a.2.1,s ∈ abcd) ∧ a.2.1.length = 0)
         (fun a => ⟨[(0,.il 1 (encI l)),(2,.ptr 0 0 0),(3,.ptr 1 0 0),(4,.int .i64 n),(5,.int .i64 ns.length),(6,.int .i64 kk),(7,.ptr 3 0 0),(8,.int .i64 a.1.length)],[(0,.row 25 1 [.agg [.nsl]]),(1,.row 25 1 [.agg [.sl 2 0 ns.length]]),(2,.row 35 12 (encNs ns)),(3,.row 35 12 [.agg [.int .i64 2,.str [],.int .i64 0,.int .i64 0,.sl 4 0 a.1.length,.nsl,.nsl,.sl 5 0 a.1.length,.int .i64 0,.int .i64 0,.str [],.nsl]]),(4,.row 3 1 (encI a.1)),(5,.row 3 1 (encI a.2.2))],6,181⟩)
         (fun a => 4 - a.1.length) ([],[],[]) [(0,0),(1,1),(2,2),(3,3),(4,4),(5,5)] (by simp)
         (conv_mk _ rfl ⟨⟨0,_,rfl,rfl,.same nns⟩,⟨1,_,rfl,rfl,.cons (.agg (.cons (.sl 2 2 0 _ rfl) .nil)) .nil⟩,⟨2,_,rfl,rfl,.same (encNs_nn _)⟩,⟨3,_,rfl,rfl,.cons (.agg (.cons (.same _ nn) (.cons (.same _ nn) (.cons (.same _ nn) (.cons (.same _ nn) (.cons (.nslk 4 4 _ rfl rfl) (.cons (.same _ nn) (.cons (.same _ nn) (.cons (.nslk 5 5 _ rfl rfl) (.cons (.same _ nn) (.cons (.same _ nn) (.cons (.same _ nn) (.cons (.same _ nn) .nil))))))))))))) .nil⟩,⟨4,_,rfl,rfl,.same .nil⟩,⟨5,_,rfl,rfl,.same .nil⟩,trivial⟩ ⟨⟨_,rfl,.same _ nn⟩,⟨_,rfl,.ptr 0 0 0 0 rfl⟩,⟨_,rfl,.ptr 1 1 0 0 rfl⟩,⟨_,rfl,.same _ nn⟩,⟨_,rfl,.same _ nn⟩,⟨_,rfl,.same _ nn⟩,⟨_,rfl,.ptr 3 3 0 0 rfl⟩,⟨_,rfl,.same _ nn⟩,trivial⟩) ?_
        rintro ⟨wl,ll,kl⟩ ⟨j1,j2,j3,j4,j5,j6⟩
        simp only at j1 j2 j3 j4 j5 j6
        ((conv=>whnf);repeat(refine Xg ?_;conv=>whnf))
        refine bcs_mk (fun h => ?_) (fun h => ?_)
        ·have hjc : wl.length < 4 := by rw [hw8] at h; have := tmod_lt q80 (show (0 : Int) < 4 by omega); simp at h; omega
         have hwj : IntKind.i64.wrap ((ns.length : Int) + (wl.length : Int)) = (ns.length : Int) + wl.length := wrap64 ⟨by omega,by omega⟩
         have hPj := rPick l ((ns.length : Int) + wl.length) 5 hl (by omega)
         have hPb := pickI_bound (l := l) (i := (ns.length : Int) + wl.length) (most := 5) (by omega)
         generalize pickI l ((ns.length : Int) + wl.length) 5 = pw at hPj hPb
         have hKj := rKid l ns.length wl.length hl (by omega) (by omega) (by omega) (by omega)
         have hKb := kidI_bound (l := l) (i := (ns.length : Int)) (j := (wl.length : Int)) (by omega)
         generalize kidI l ns.length wl.length = kw at hKj hKb
         ((conv=>whnf);repeat(refine Xg ?_;conv=>whnf))
         rw [hwj]
         refine hPj.go ?_
         ((conv=>whnf);repeat(refine Xg ?_;conv=>whnf))
         repeat (refine ⟨rfl, ?_⟩; ((conv=>whnf);repeat(refine Xg ?_;conv=>whnf)))
         refine grd_mk (app_ok rfl rfl (by rw [encI_length]) (by simp; omega)) ?_
         ((conv=>whnf);repeat(refine Xg ?_;conv=>whnf))
         repeat (refine ⟨rfl, ?_⟩; ((conv=>whnf);repeat(refine Xg ?_;conv=>whnf)))
         refine hKj.go ?_
         ((conv=>whnf);repeat(refine Xg ?_;conv=>whnf))
         repeat (refine ⟨rfl, ?_⟩; ((conv=>whnf);repeat(refine Xg ?_;conv=>whnf)))
         refine grd_mk (app_ok rfl rfl (by rw [encI_length,j2]) (by simp; omega)) ?_
         ((conv=>whnf);repeat(refine Xg ?_;conv=>whnf))
         repeat (refine ⟨rfl, ?_⟩; ((conv=>whnf);repeat(refine Xg ?_;conv=>whnf)))
         rw [hB]
         ((conv=>whnf);repeat(refine Xg ?_;conv=>whnf))
         exact .mk (wl ++ [IntKind.i64.wrap (1 + pw)],ll,kl ++ [kw]) [(0,0),(1,1),(2,2),(3,3),(18,4),(29,5)] ⟨by simp; omega,by simp; omega,mem_snoc j3 (i64w _),mem_snoc j4 ⟨by omega,by omega⟩,j5,j6⟩
          (conv_mk _ rfl ⟨⟨0,_,rfl,rfl,.same nns⟩,⟨1,_,rfl,rfl,.cons (.agg (.cons (.sl 2 2 0 _ rfl) .nil)) .nil⟩,⟨2,_,rfl,rfl,.same (encNs_nn _)⟩,⟨3,_,rfl,rfl,.cons (.agg (.cons (.same _ nn) (.cons (.same _ nn) (.cons (.same _ nn) (.cons (.same _ nn) (.cons (.slE rfl (by simp)) (.cons (.same _ nn) (.cons (.same _ nn) (.cons (.slE rfl (by simp)) (.cons (.same _ nn) (.cons (.same _ nn) (.cons (.same _ nn) (.cons (.same _ nn) .nil))))))))))))) .nil⟩,⟨18,_,rfl,rfl,.eq (encI_nn _) (by simp [encI])⟩,⟨29,_,rfl,rfl,.eq (encI_nn _) (by simp [encI])⟩,trivial⟩ ⟨⟨_,rfl,.same _ nn⟩,⟨_,rfl,.ptr 0 0 0 0 rfl⟩,⟨_,rfl,.ptr 1 1 0 0 rfl⟩,⟨_,rfl,.same _ nn⟩,⟨_,rfl,.same _ nn⟩,⟨_,rfl,.same _ nn⟩,⟨_,rfl,.ptr 3 3 0 0 rfl⟩,⟨_,rfl,.w64 (by simp) ⟨by simp; omega,by simp; omega⟩⟩,trivial⟩) (by simp; omega)
        ·((conv=>whnf);repeat(refine Xg ?_;conv=>whnf))
         obtain rfl : ll = [] := List.length_eq_zero_iff.1 j6
         exact hQ ⟨2,[],0,0,wl,[],[],kl,zV⟩ _ [(0,0),(1,1),(2,2),(3,3)] (genN_mk ⟨by omega,by omega⟩ (by simp) z0 z0 (by omega) j3 (by simp) (by simp) (by simp) (by simp) (by omega) j4 (okV_leaf z0 z0) (by simp [zV,sizeV,sizeL])) (conv_mk _ rfl ⟨⟨0,_,rfl,rfl,.same nns⟩,⟨1,_,rfl,rfl,.cons (.agg (.cons (.sl 2 2 0 _ rfl) .nil)) .nil⟩,⟨2,_,rfl,rfl,.same (encNs_nn _)⟩,⟨3,_,rfl,rfl,.cons (.agg (.cons (.same _ nn) (.cons (.same _ nn) (.cons (.same _ nn) (.cons (.same _ nn) (.cons (.fz' (id := 4) rfl rfl (by rw [encI_length]; first | omega | (simp only; omega)) (by rw [List.drop_zero]; exact List.take_of_length_le (by rw [encI_length]; first | omega | (simp only; omega))) (encI_nn _)) (.cons (.nil 1) (.cons (.nil 4) (.cons (.fz' (id := 5) rfl rfl (by rw [encI_length]; first | omega | (simp only; omega)) (by rw [List.drop_zero]; exact List.take_of_length_le (by rw [encI_length]; first | omega | (simp only; omega))) (encI_nn _)) (.cons (.same _ nn) (.cons (.same _ nn) (.cons (.same _ nn) (.cons (.nil 4) .nil))))))))))))) .nil⟩,trivial⟩ ⟨⟨_,rfl,.same _ nn⟩,⟨_,rfl,.ptr 0 0 0 0 rfl⟩,⟨_,rfl,.ptr 1 1 0 0 rfl⟩,⟨_,rfl,.same _ nn⟩,⟨_,rfl,.same _ nn⟩,⟨_,rfl,.same _ nn⟩,⟨_,rfl,.ptr 3 3 0 0 rfl⟩,trivial⟩)
      ·obtain ⟨qn,hqn,hqe⟩ : ∃ qn : Nat,qn < 3 ∧ (IntKind.i64.wrap (kk.tdiv 8)).tmod 3 = (qn : Int) := by
        rw [hw8]
        have := tmod_lt q80 (show (0 : Int) < 3 by omega)
        exact ⟨((kk.tdiv 8).tmod 3).toNat,by omega,by omega⟩
       obtain ⟨nm,hnm,hnl⟩ : ∃ nm,([AV.str [],AV.str [80,97,105,114],AV.str []])[0 + ((qn : Nat) : Int).toNat]? = some (.str nm) ∧ nm.length ≤ 4 := by
        rcases (show qn = 0 ∨ qn = 1 ∨ qn = 2 by omega) with rfl | rfl | rfl
        ·exact ⟨[],rfl,by simp⟩
        ·exact ⟨[80,97,105,114],rfl,by simp⟩
        ·exact ⟨[],rfl,by simp⟩
       have bnm : Nat.blt ((qn : Nat) : Int).toNat 3 = true := Nat.ble_eq_true_of_le (by simp; omega)
       ((conv=>whnf);repeat(refine Xg ?_;conv=>whnf))
       rw [hqe]
       ((conv=>whnf);repeat(refine Xg ?_;conv=>whnf))
       repeat ((first | refine ⟨rfl, ?_⟩ | refine grd_mk bnm ?_ | refine opt_mk hnm ?_); ((conv=>whnf);repeat(refine Xg ?_;conv=>whnf)))
       refine ALoop.ph 3 1 ?_
       refine ALoop.at nnΓ (fun a : List Int => a.length ≤ 4 ∧ ∀ w ∈ a,i64 w)
        (fun a => ⟨[(0,.il 1 (encI l)),(2,.ptr 0 0 0),(3,.ptr 1 0 0),(4,.int .i64 n),(5,.int .i64 ns.length),(6,.int .i64 kk),(7,.ptr 3 0 0),(9,.int .i64 a.length)],[(0,.row 25 1 [.agg [.nsl]]),(1,.row 25 1 [.agg [.sl 2 0 ns.length]]),(2,.row 35 12 (encNs ns)),(3,.row 35 12 [.agg [.int .i64 3,.str nm,.int .i64 0,.int .i64 0,.nsl,.nsl,.nsl,.sl 4 0 a.length,.int .i64 0,.int .i64 0,.str [],.nsl]]),(4,.row 3 1 (encI a))],5,181⟩)
        (fun a => 4 - a.length) [] [(0,0),(1,1),(2,2),(3,3),(5,4)] (by simp)
        (conv_mk _ rfl ⟨⟨0,_,rfl,rfl,.same nns⟩,⟨1,_,rfl,rfl,.cons (.agg (.cons (.sl 2 2 0 _ rfl) .nil)) .nil⟩,⟨2,_,rfl,rfl,.same (encNs_nn _)⟩,⟨3,_,rfl,rfl,.cons (.agg (.cons (.same _ nn) (.cons (.same _ nn) (.cons (.same _ nn) (.cons (.same _ nn) (.cons (.same _ nn) (.cons (.same _ nn) (.cons (.same _ nn) (.cons (.nslk 5 4 _ rfl rfl) (.cons (.same _ nn) (.cons (.same _ nn) (.cons (.same _ nn) (.cons (.same _ nn) .nil))))))))))))) .nil⟩,⟨5,_,rfl,rfl,.same .nil⟩,trivial⟩ ⟨⟨_,rfl,.same _ nn⟩,⟨_,rfl,.ptr 0 0 0 0 rfl⟩,⟨_,rfl,.ptr 1 1 0 0 rfl⟩,⟨_,rfl,.same _ nn⟩,⟨_,rfl,.same _ nn⟩,⟨_,rfl,.same _ nn⟩,⟨_,rfl,.ptr 3 3 0 0 rfl⟩,⟨_,rfl,.same _ nn⟩,trivial⟩) ?_
       rintro kl ⟨j1,j4⟩
       ((conv=>whnf);repeat(refine Xg ?_;conv=>whnf))
       refine bcs_mk (fun h => ?_) (fun h => ?_)
       ·have hjc : kl.length < 4 := by
         have a0 := tdiv_le kk0 (show (0 : Int) < 24 by omega)
         have a1 : 0 ≤ kk.tdiv 24 := Int.tdiv_nonneg kk0 (by omega)
         have e1 : IntKind.i64.wrap (kk.tdiv 24) = kk.tdiv 24 := wrap64 ⟨by omega,by omega⟩
         rw [e1] at h
         have := tmod_lt a1 (show (0 : Int) < 4 by omega)
         simp at h
         omega
        have hKj := rKid l ns.length kl.length hl (by omega) (by omega) (by omega) (by omega)
        have hKb := kidI_bound (l := l) (i := (ns.length : Int)) (j := (kl.length : Int)) (by omega)
        generalize kidI l ns.length kl.length = kw at hKj hKb
        ((conv=>whnf);repeat(refine Xg ?_;conv=>whnf))
        refine hKj.go ?_
        ((conv=>whnf);repeat(refine Xg ?_;conv=>whnf))
        repeat (refine ⟨rfl, ?_⟩; ((conv=>whnf);repeat(refine Xg ?_;conv=>whnf)))
        refine grd_mk (app_ok rfl rfl (by rw [encI_length]) (by simp; omega)) ?_
        ((conv=>whnf);repeat(refine Xg ?_;conv=>whnf))
        repeat (refine ⟨rfl, ?_⟩; ((conv=>whnf);repeat(refine Xg ?_;conv=>whnf)))
        exact .mk (kl ++ [kw]) [(0,0),(1,1),(2,2),(3,3),(15,4)] ⟨by simp; omega,mem_snoc j4 ⟨by omega,by omega⟩⟩
         (conv_mk _ rfl ⟨⟨0,_,rfl,rfl,.same nns⟩,⟨1,_,rfl,rfl,.cons (.agg (.cons (.sl 2 2 0 _ rfl) .nil)) .nil⟩,⟨2,_,rfl,rfl,.same (encNs_nn _)⟩,⟨3,_,rfl,rfl,.cons (.agg (.cons (.same _ nn) (.cons (.same _ nn) (.cons (.same _ nn) (.cons (.same _ nn) (.cons (.same _ nn) (.cons (.same _ nn) (.cons (.same _ nn) (.cons (.slE rfl (by simp)) (.cons (.same _ nn) (.cons (.same _ nn) (.cons (.same _ nn) (.cons (.same _ nn) .nil))))))))))))) .nil⟩,⟨15,_,rfl,rfl,.eq (encI_nn _) (by simp [encI])⟩,trivial⟩ ⟨⟨_,rfl,.same _ nn⟩,⟨_,rfl,.ptr 0 0 0 0 rfl⟩,⟨_,rfl,.ptr 1 1 0 0 rfl⟩,⟨_,rfl,.same _ nn⟩,⟨_,rfl,.same _ nn⟩,⟨_,rfl,.same _ nn⟩,⟨_,rfl,.ptr 3 3 0 0 rfl⟩,⟨_,rfl,.w64 (by simp) ⟨by simp; omega,by simp; omega⟩⟩,trivial⟩) (by simp; omega)
       ·((conv=>whnf);repeat(refine Xg ?_;conv=>whnf))
        exact hQ ⟨3,nm,0,0,[],[],[],kl,zV⟩ _ [(0,0),(1,1),(2,2),(3,3)] (genN_mk ⟨by omega,by omega⟩ (by omega) z0 z0 (by simp) (by simp) (by simp) (by simp) (by simp) (by simp) (by omega) j4 (okV_leaf z0 z0) (by simp [zV,sizeV,sizeL])) (conv_mk _ rfl ⟨⟨0,_,rfl,rfl,.same nns⟩,⟨1,_,rfl,rfl,.cons (.agg (.cons (.sl 2 2 0 _ rfl) .nil)) .nil⟩,⟨2,_,rfl,rfl,.same (encNs_nn _)⟩,⟨3,_,rfl,rfl,.cons (.agg (.cons (.same _ nn) (.cons (.same _ nn) (.cons (.same _ nn) (.cons (.same _ nn) (.cons (.nil 1) (.cons (.nil 1) (.cons (.nil 4) (.cons (.fz' (id := 4) rfl rfl (by rw [encI_length]; first | omega | (simp only; omega)) (by rw [List.drop_zero]; exact List.take_of_length_le (by rw [encI_length]; first | omega | (simp only; omega))) (encI_nn _)) (.cons (.same _ nn) (.cons (.same _ nn) (.cons (.same _ nn) (.cons (.nil 4) .nil))))))))))))) .nil⟩,trivial⟩ ⟨⟨_,rfl,.same _ nn⟩,⟨_,rfl,.ptr 0 0 0 0 rfl⟩,⟨_,rfl,.ptr 1 1 0 0 rfl⟩,⟨_,rfl,.same _ nn⟩,⟨_,rfl,.same _ nn⟩,⟨_,rfl,.same _ nn⟩,⟨_,rfl,.ptr 3 3 0 0 rfl⟩,trivial⟩)
      ·have hBd := oBind ns l kk hl (by omega) (by omega) kk0 (by omega) hT.good
       have hBg := bindN_gen hT (by omega) (by omega) (l := l) (k := kk) kk0
       have hns : ns.length ≤ 14 := by omega
       generalize bindN ns l ns.length kk = bx at hBd hBg
       have hbn := encN_nn bx
       ((conv=>whnf);repeat(refine Xg ?_;conv=>whnf))
       refine ACalls.use1 nnΓ hBd 2 rfl (encNs_nn _) (.cons (.agg' (.cons (.sl 2 0 0 _ rfl) .nil)) (.cons (.same _ nn) (.cons (.same _ nn) (.cons (.same _ nn) .nil)))) ?_
       rintro r m k' ⟨rfl,rfl⟩
       refine ⟨_,rfl,hbn,encNs_nn _, ?_⟩
       obtain ⟨kind,name,lo,hi,ws,ls,vals,kids,⟨vk,vn,vs,vks⟩⟩ := bx
       ((conv=>whnf);repeat(refine Xg ?_;conv=>whnf))
       exact hQ ⟨kind,name,lo,hi,ws,ls,vals,kids,.mk vk vn vs vks⟩ _ [(0,0),(1,1),(2,2),(3,3)] hBg (conv_mk _ rfl ⟨⟨0,_,rfl,rfl,.same nns⟩,⟨1,_,rfl,rfl,.cons (.agg (.cons (.sl 2 2 0 _ rfl) .nil)) .nil⟩,⟨2,_,rfl,rfl,.same (encNs_nn _)⟩,⟨3,_,rfl,rfl,.same (.cons (encN_nn ⟨kind,name,lo,hi,ws,ls,vals,kids,.mk vk vn vs vks⟩) .nil)⟩,trivial⟩ ⟨⟨_,rfl,.same _ nn⟩,⟨_,rfl,.ptr 0 0 0 0 rfl⟩,⟨_,rfl,.ptr 1 1 0 0 rfl⟩,⟨_,rfl,.same _ nn⟩,⟨_,rfl,.same _ nn⟩,⟨_,rfl,.same _ nn⟩,⟨_,rfl,.ptr 3 3 0 0 rfl⟩,trivial⟩)
     ·have hxn := encN_nn x
      have hV := oValid (ns ++ [x]) (by simp; omega) (fun y hy => by
       rcases List.mem_append.1 hy with hy | hy
       ·have := hT.gen y hy; exact ⟨this.ok,by have := this.vals; omega⟩
       ·simp at hy; rw [hy]; exact ⟨hx.ok,by have := hx.vals; omega⟩)
      have hnn2 := encNs_nn (ns ++ [x])
      have eTk : List.take ns.length (List.drop 0 (encNs ns)) = encNs ns := by rw [List.drop_zero]; exact List.take_of_length_le (by rw [encNs_length]; omega)
      have hxs : encNs (ns ++ [x]) = encNs ns ++ [encN x] := by simp [encNs]
      have hsn := fun h => hT.snoc (x := x) (by omega) hx h
      have hw5 := tmod_lt kk0 (show (0 : Int) < 5 by omega)
      have hlf := hT.leaf (m := kk.tmod 5) ⟨by omega,by omega⟩
      obtain ⟨e,he⟩ : ∃ e,e = validT (ns ++ [x]) := ⟨_,rfl⟩
      rw [← he] at hV hsn
      obtain ⟨kind,name,lo,hi,ws,ls,vals,kids,⟨vk,vn,vs,vks⟩⟩ := x
      ((conv=>whnf);repeat(refine Xg ?_;conv=>whnf))
      refine grd_mk (src_ok (by rw [encNs_length]; omega)) ?_
      rw [eTk]
      ((conv=>whnf);repeat(refine Xg ?_;conv=>whnf))
      refine grd_mk (app_nil rfl (by rw [encNs_length]; omega)) ?_
      ((conv=>whnf);repeat(refine Xg ?_;conv=>whnf))
      refine grd_mk (app_ok rfl rfl rfl (by rw [encNs_length]; simp; omega)) ?_
      ((conv=>whnf);repeat(refine Xg ?_;conv=>whnf))
      refine ACalls.useN nnΓ [(7,0)] hV rfl (.cons (.agg' (.cons (.slE rfl (by rw [encNs_length]; simp)) .nil)) .nil) ⟨⟨7,_,rfl,rfl,.eq hnn2 (by rw [hxs]; rfl)⟩,trivial⟩ rfl ?_
      rintro r m k' ⟨rfl,rfl⟩
      refine ⟨[(0,7)],_,[(7,.row 35 12 (encNs (ns ++ [⟨kind,name,lo,hi,ws,ls,vals,kids,.mk vk vn vs vks⟩])))],8,.same _ nn,⟨⟨0,_,rfl,rfl,.same hnn2⟩,trivial⟩,rfl, ?_⟩
      by_cases e0 : e = 0
      ·subst e0
       ((conv=>whnf);repeat(refine Xg ?_;conv=>whnf))
       exact .mk (ns ++ [⟨kind,name,lo,hi,ws,ls,vals,kids,.mk vk vn vs vks⟩]) [(0,0),(1,1),(7,2)] ⟨hsn rfl,by simp; omega⟩
        (conv_mk _ rfl ⟨⟨0,_,rfl,rfl,.same nns⟩,⟨1,_,rfl,rfl,.cons (.agg (.cons (.slE rfl (by rw [encNs_length]; simp)) .nil)) .nil⟩,⟨7,_,rfl,rfl,.same hnn2⟩,trivial⟩ ⟨⟨_,rfl,.same _ nn⟩,⟨_,rfl,.ptr 0 0 0 0 rfl⟩,⟨_,rfl,.ptr 1 1 0 0 rfl⟩,⟨_,rfl,.same _ nn⟩,⟨_,rfl,.w64 (by simp) ⟨by simp; omega,by simp; omega⟩⟩,trivial⟩) (by simp; omega)
      ·have de : (e == 0) = false := by simpa using e0
       ((conv=>whnf);repeat(refine Xg ?_;conv=>whnf))
       rw [de]
       ((conv=>whnf);repeat(refine Xg ?_;conv=>whnf))
       refine grd_mk (app_ok rfl rfl (by rw [encNs_length]) (by simp; omega)) ?_
       ((conv=>whnf);repeat(refine Xg ?_;conv=>whnf))
       have hlx : encNs (ns ++ [⟨0,[],0,0,[],[],[],[],.mk 0 (kk.tmod 5) [] []⟩]) = encNs ns ++ [encN ⟨0,[],0,0,[],[],[],[],.mk 0 (kk.tmod 5) [] []⟩] := by simp [encNs]
       exact .mk (ns ++ [⟨0,[],0,0,[],[],[],[],.mk 0 (kk.tmod 5) [] []⟩]) [(0,0),(1,1),(9,2)] ⟨hlf,by simp; omega⟩
        (conv_mk _ rfl ⟨⟨0,_,rfl,rfl,.same nns⟩,⟨1,_,rfl,rfl,.cons (.agg (.cons (.slE rfl (by simp)) .nil)) .nil⟩,⟨9,_,rfl,rfl,by rw [hlx]; exact .snoc rfl (.same (encNs_nn _)) (.agg (.cons (.same _ nn) (.cons (.same _ nn) (.cons (.same _ nn) (.cons (.same _ nn) (.cons (.nil 1) (.cons (.nil 1) (.cons (.nil 4) (.cons (.nil 1) (.cons (.same _ nn) (.cons (.same _ nn) (.cons (.same _ nn) (.cons (.nil 4) .nil)))))))))))))⟩,trivial⟩ ⟨⟨_,rfl,.same _ nn⟩,⟨_,rfl,.ptr 0 0 0 0 rfl⟩,⟨_,rfl,.ptr 1 1 0 0 rfl⟩,⟨_,rfl,.same _ nn⟩,⟨_,rfl,.w64 (by simp) ⟨by simp; omega,by simp; omega⟩⟩,trivial⟩) (by simp; omega)
    ·have d5 : decide (k8 > 5) = true := by simp; omega
     have hw4 : IntKind.i64.wrap (k8 - 4) = k8 - 4 := wrap64 ⟨by omega,by omega⟩
     rw [e5]
     ((conv=>whnf);repeat(refine Xg ?_;conv=>whnf))
     rw [d5]
     ((conv=>whnf);repeat(refine Xg ?_;conv=>whnf))
     rw [hw4]
     obtain ⟨kd,hkd⟩ : ∃ kd,kd = k8 - 4 := ⟨_,rfl⟩
     rw [← hkd]
     refine bcs_join nnΓ (fun x : Nd => GenN x) (fun x => ⟨[(0,.il 1 (encI l)),(2,.ptr 0 0 0),(3,.ptr 1 0 0),(4,.int .i64 n),(5,.int .i64 ns.length),(6,.int .i64 kk),(7,.ptr 3 0 0)],[(0,.row 25 1 [.agg [.nsl]]),(1,.row 25 1 [.agg [.sl 2 0 ns.length]]),(2,.row 35 12 (encNs ns)),(3,.row 35 12 [encN x])],4,181⟩) (fun Qr hQ => ?_) (fun x hx => ?_)
     ·rcases (show kd = 2 ∨ kd = 3 by omega) with rfl | rfl
      ·((conv=>whnf);repeat(refine Xg ?_;conv=>whnf))
       rcases (show decide ((IntKind.i64.wrap (kk.tdiv 32)).tmod 3 > 0) = true ∨ decide ((IntKind.i64.wrap (kk.tdiv 32)).tmod 3 > 0) = false by cases decide ((IntKind.i64.wrap (kk.tdiv 32)).tmod 3 > 0) <;> simp) with hB | hB
       ·have hB : decide ((IntKind.i64.wrap (kk.tdiv 32)).tmod 3 > 0) = true := hB
        refine ALoop.ph 3 1 ?_
        refine ALoop.ph 3 1 ?_
        refine ALoop.ph 9 1 ?_
        refine ALoop.at nnΓ (fun a : List Int × List (List UInt8) × List Int => a.1.length ≤ 4 ∧ a.2.2.length = a.1.length ∧ (∀ w ∈ a.1,i64 w) ∧ (∀ w ∈ a.2.2,i64 w) ∧ (∀ s ∈ a.2.1,s ∈ abcd) ∧ a.2.1.length = a.1.length)
         (fun a => ⟨[(0,.il 1 (encI l)),(2,.ptr 0 0 0),(3,.ptr 1 0 0),(4,.int .i64 n),(5,.int .i64 ns.length),(6,.int .i64 kk),(7,.ptr 3 0 0),(8,.int .i64 a.1.length)],[(0,.row 25 1 [.agg [.nsl]]),(1,.row 25 1 [.agg [.sl 2 0 ns.length]]),(2,.row 35 12 (encNs ns)),(3,.row 35 12 [.agg [.int .i64 2,.str [],.int .i64 0,.int .i64 0,.sl 4 0 a.1.length,.sl 6 0 a.1.length,.nsl,.sl 5 0 a.1.length,.int .i64 0,.int .i64 0,.str [],.nsl]]),(4,.row 3 1 (encI a.1)),(5,.row 3 1 (encI a.2.2)),(6,.row 9 1 (encS a.2.1))],7,181⟩)
         (fun a => 4 - a.1.length) ([],[],[]) [(0,0),(1,1),(2,2),(3,3),(4,4),(5,5),(6,6)] (by simp)
         (conv_mk _ rfl ⟨⟨0,_,rfl,rfl,.same nns⟩,⟨1,_,rfl,rfl,.cons (.agg (.cons (.sl 2 2 0 _ rfl) .nil)) .nil⟩,⟨2,_,rfl,rfl,.same (encNs_nn _)⟩,⟨3,_,rfl,rfl,.cons (.agg (.cons (.same _ nn) (.cons (.same _ nn) (.cons (.same _ nn) (.cons (.same _ nn) (.cons (.nslk 4 4 _ rfl rfl) (.cons (.nslk 6 6 _ rfl rfl) (.cons (.same _ nn) (.cons (.nslk 5 5 _ rfl rfl) (.cons (.same _ nn) (.cons (.same _ nn) (.cons (.same _ nn) (.cons (.same _ nn) .nil))))))))))))) .nil⟩,⟨4,_,rfl,rfl,.same .nil⟩,⟨5,_,rfl,rfl,.same .nil⟩,⟨6,_,rfl,rfl,.same .nil⟩,trivial⟩ ⟨⟨_,rfl,.same _ nn⟩,⟨_,rfl,.ptr 0 0 0 0 rfl⟩,⟨_,rfl,.ptr 1 1 0 0 rfl⟩,⟨_,rfl,.same _ nn⟩,⟨_,rfl,.same _ nn⟩,⟨_,rfl,.same _ nn⟩,⟨_,rfl,.ptr 3 3 0 0 rfl⟩,⟨_,rfl,.same _ nn⟩,trivial⟩) ?_
        rintro ⟨wl,ll,kl⟩ ⟨j1,j2,j3,j4,j5,j6⟩
        simp only at j1 j2 j3 j4 j5 j6
        ((conv=>whnf);repeat(refine Xg ?_;conv=>whnf))
        refine bcs_mk (fun h => ?_) (fun h => ?_)
        ·have hjc : wl.length < 4 := by rw [hw8] at h; have := tmod_lt q80 (show (0 : Int) < 4 by omega); simp at h; omega
         have hwj : IntKind.i64.wrap ((ns.length : Int) + (wl.length : Int)) = (ns.length : Int) + wl.length := wrap64 ⟨by omega,by omega⟩
         have hPj := rPick l ((ns.length : Int) + wl.length) 5 hl (by omega)
         have hPb := pickI_bound (l := l) (i := (ns.length : Int) + wl.length) (most := 5) (by omega)
         generalize pickI l ((ns.length : Int) + wl.length) 5 = pw at hPj hPb
         have hKj := rKid l ns.length wl.length hl (by omega) (by omega) (by omega) (by omega)
         have hKb := kidI_bound (l := l) (i := (ns.length : Int)) (j := (wl.length : Int)) (by omega)
         generalize kidI l ns.length wl.length = kw at hKj hKb
         ((conv=>whnf);repeat(refine Xg ?_;conv=>whnf))
         rw [hwj]
         refine hPj.go ?_
         ((conv=>whnf);repeat(refine Xg ?_;conv=>whnf))
         repeat (refine ⟨rfl, ?_⟩; ((conv=>whnf);repeat(refine Xg ?_;conv=>whnf)))
         refine grd_mk (app_ok rfl rfl (by rw [encI_length]) (by simp; omega)) ?_
         ((conv=>whnf);repeat(refine Xg ?_;conv=>whnf))
         repeat (refine ⟨rfl, ?_⟩; ((conv=>whnf);repeat(refine Xg ?_;conv=>whnf)))
         refine hKj.go ?_
         ((conv=>whnf);repeat(refine Xg ?_;conv=>whnf))
         repeat (refine ⟨rfl, ?_⟩; ((conv=>whnf);repeat(refine Xg ?_;conv=>whnf)))
         refine grd_mk (app_ok rfl rfl (by rw [encI_length,j2]) (by simp; omega)) ?_
         ((conv=>whnf);repeat(refine Xg ?_;conv=>whnf))
         repeat (refine ⟨rfl, ?_⟩; ((conv=>whnf);repeat(refine Xg ?_;conv=>whnf)))
         rw [hB]
         ((conv=>whnf);repeat(refine Xg ?_;conv=>whnf))
         obtain ⟨qn,hqn,hqe⟩ : ∃ qn : Nat,qn < 4 ∧ (IntKind.i64.wrap ((wl.length : Int) + IntKind.i64.wrap (kk.tdiv 96))).tmod 4 = (qn : Int) := by
          have a0 := tdiv_le kk0 (show (0 : Int) < 96 by omega)
          have a1 : 0 ≤ kk.tdiv 96 := Int.tdiv_nonneg kk0 (by omega)
          have e1 : IntKind.i64.wrap (kk.tdiv 96) = kk.tdiv 96 := wrap64 ⟨by omega,by omega⟩
          have e2 : IntKind.i64.wrap ((wl.length : Int) + kk.tdiv 96) = (wl.length : Int) + kk.tdiv 96 := wrap64 ⟨by omega,by omega⟩
          rw [e1,e2]
          have := tmod_lt (show 0 ≤ (wl.length : Int) + kk.tdiv 96 by omega) (show (0 : Int) < 4 by omega)
          exact ⟨(((wl.length : Int) + kk.tdiv 96).tmod 4).toNat,by omega,by omega⟩
         obtain ⟨sa,hsa,hsm⟩ : ∃ sa,([AV.str [97],AV.str [98],AV.str [99],AV.str [100]])[0 + ((qn : Nat) : Int).toNat]? = some (.str sa) ∧ sa ∈ abcd := by
          rcases (show qn = 0 ∨ qn = 1 ∨ qn = 2 ∨ qn = 3 by omega) with rfl | rfl | rfl | rfl
          ·exact ⟨[97],rfl,by simp [abcd]⟩
          ·exact ⟨[98],rfl,by simp [abcd]⟩
          ·exact ⟨[99],rfl,by simp [abcd]⟩
          ·exact ⟨[100],rfl,by simp [abcd]⟩
         have bsa : Nat.blt ((qn : Nat) : Int).toNat 4 = true := Nat.ble_eq_true_of_le (by simp; omega)
         rw [hqe]
         ((conv=>whnf);repeat(refine Xg ?_;conv=>whnf))
         repeat ((first | refine ⟨rfl, ?_⟩ | refine grd_mk bsa ?_ | refine opt_mk hsa ?_); ((conv=>whnf);repeat(refine Xg ?_;conv=>whnf)))
         refine grd_mk (app_ok rfl rfl (by rw [encS_length,j6]) (by simp; omega)) ?_
         ((conv=>whnf);repeat(refine Xg ?_;conv=>whnf))
         repeat ((first | refine ⟨rfl, ?_⟩ | refine grd_mk bsa ?_ | refine opt_mk hsa ?_); ((conv=>whnf);repeat(refine Xg ?_;conv=>whnf)))
         exact .mk (wl ++ [IntKind.i64.wrap (1 + pw)],ll ++ [sa],kl ++ [kw]) [(0,0),(1,1),(2,2),(3,3),(19,4),(30,5),(45,6)] ⟨by simp; omega,by simp; omega,mem_snoc j3 (i64w _),mem_snoc j4 ⟨by omega,by omega⟩,mem_snoc j5 hsm,by simp; omega⟩
          (conv_mk _ rfl ⟨⟨0,_,rfl,rfl,.same nns⟩,⟨1,_,rfl,rfl,.cons (.agg (.cons (.sl 2 2 0 _ rfl) .nil)) .nil⟩,⟨2,_,rfl,rfl,.same (encNs_nn _)⟩,⟨3,_,rfl,rfl,.cons (.agg (.cons (.same _ nn) (.cons (.same _ nn) (.cons (.same _ nn) (.cons (.same _ nn) (.cons (.slE rfl (by simp)) (.cons (.slE rfl (by simp)) (.cons (.same _ nn) (.cons (.slE rfl (by simp)) (.cons (.same _ nn) (.cons (.same _ nn) (.cons (.same _ nn) (.cons (.same _ nn) .nil))))))))))))) .nil⟩,⟨19,_,rfl,rfl,.eq (encI_nn _) (by simp [encI])⟩,⟨30,_,rfl,rfl,.eq (encI_nn _) (by simp [encI])⟩,⟨45,_,rfl,rfl,.eq (encS_nn _) (by simp [encS])⟩,trivial⟩ ⟨⟨_,rfl,.same _ nn⟩,⟨_,rfl,.ptr 0 0 0 0 rfl⟩,⟨_,rfl,.ptr 1 1 0 0 rfl⟩,⟨_,rfl,.same _ nn⟩,⟨_,rfl,.same _ nn⟩,⟨_,rfl,.same _ nn⟩,⟨_,rfl,.ptr 3 3 0 0 rfl⟩,⟨_,rfl,.w64 (by simp) ⟨by simp; omega,by simp; omega⟩⟩,trivial⟩) (by simp; omega)
        ·((conv=>whnf);repeat(refine Xg ?_;conv=>whnf))
         exact hQ ⟨2,[],0,0,wl,ll,[],kl,zV⟩ _ [(0,0),(1,1),(2,2),(3,3)] (genN_mk ⟨by omega,by omega⟩ (by simp) z0 z0 (by omega) j3 (by omega) j5 (by simp) (by simp) (by omega) j4 (okV_leaf z0 z0) (by simp [zV,sizeV,sizeL])) (conv_mk _ rfl ⟨⟨0,_,rfl,rfl,.same nns⟩,⟨1,_,rfl,rfl,.cons (.agg (.cons (.sl 2 2 0 _ rfl) .nil)) .nil⟩,⟨2,_,rfl,rfl,.same (encNs_nn _)⟩,⟨3,_,rfl,rfl,.cons (.agg (.cons (.same _ nn) (.cons (.same _ nn) (.cons (.same _ nn) (.cons (.same _ nn) (.cons (.fz' (id := 4) rfl rfl (by rw [encI_length]; first | omega | (simp only; omega)) (by rw [List.drop_zero]; exact List.take_of_length_le (by rw [encI_length]; first | omega | (simp only; omega))) (encI_nn _)) (.cons (.fz' (id := 6) rfl rfl (by rw [encS_length]; first | omega | (simp only; omega)) (by rw [List.drop_zero]; exact List.take_of_length_le (by rw [encS_length]; first | omega | (simp only; omega))) (encS_nn _)) (.cons (.nil 4) (.cons (.fz' (id := 5) rfl rfl (by rw [encI_length]; first | omega | (simp only; omega)) (by rw [List.drop_zero]; exact List.take_of_length_le (by rw [encI_length]; first | omega | (simp only; omega))) (encI_nn _)) (.cons (.same _ nn) (.cons (.same _ nn) (.cons (.same _ nn) (.cons (.nil 4) .nil))))))))))))) .nil⟩,trivial⟩ ⟨⟨_,rfl,.same _ nn⟩,⟨_,rfl,.ptr 0 0 0 0 rfl⟩,⟨_,rfl,.ptr 1 1 0 0 rfl⟩,⟨_,rfl,.same _ nn⟩,⟨_,rfl,.same _ nn⟩,⟨_,rfl,.same _ nn⟩,⟨_,rfl,.ptr 3 3 0 0 rfl⟩,trivial⟩)
       ·have hB : decide ((IntKind.i64.wrap (kk.tdiv 32)).tmod 3 > 0) = false := hB
        refine ALoop.ph 3 1 ?_
        refine ALoop.ph 3 1 ?_
        refine ALoop.at nnΓ (fun a : List Int × List (List UInt8) × List Int => a.1.length ≤ 4 ∧ a.2.2.length = a.1.length ∧ (∀ w ∈ a.1,i64 w) ∧ (∀ w ∈ a.2.2,i64 w) ∧ (∀ s ∈ a.2.1,s ∈ abcd) ∧ a.2.1.length = 0)
         (fun a => ⟨[(0,.il 1 (encI l)),(2,.ptr 0 0 0),(3,.ptr 1 0 0),(4,.int .i64 n),(5,.int .i64 ns.length),(6,.int .i64 kk),(7,.ptr 3 0 0),(8,.int .i64 a.1.length)],[(0,.row 25 1 [.agg [.nsl]]),(1,.row 25 1 [.agg [.sl 2 0 ns.length]]),(2,.row 35 12 (encNs ns)),(3,.row 35 12 [.agg [.int .i64 2,.str [],.int .i64 0,.int .i64 0,.sl 4 0 a.1.length,.nsl,.nsl,.sl 5 0 a.1.length,.int .i64 0,.int .i64 0,.str [],.nsl]]),(4,.row 3 1 (encI a.1)),(5,.row 3 1 (encI a.2.2))],6,181⟩)
         (fun a => 4 - a.1.length) ([],[],[]) [(0,0),(1,1),(2,2),(3,3),(4,4),(5,5)] (by simp)
         (conv_mk _ rfl ⟨⟨0,_,rfl,rfl,.same nns⟩,⟨1,_,rfl,rfl,.cons (.agg (.cons (.sl 2 2 0 _ rfl) .nil)) .nil⟩,⟨2,_,rfl,rfl,.same (encNs_nn _)⟩,⟨3,_,rfl,rfl,.cons (.agg (.cons (.same _ nn) (.cons (.same _ nn) (.cons (.same _ nn) (.cons (.same _ nn) (.cons (.nslk 4 4 _ rfl rfl) (.cons (.same _ nn) (.cons (.same _ nn) (.cons (.nslk 5 5 _ rfl rfl) (.cons (.same _ nn) (.cons (.same _ nn) (.cons (.same _ nn) (.cons (.same _ nn) .nil))))))))))))) .nil⟩,⟨4,_,rfl,rfl,.same .nil⟩,⟨5,_,rfl,rfl,.same .nil⟩,trivial⟩ ⟨⟨_,rfl,.same _ nn⟩,⟨_,rfl,.ptr 0 0 0 0 rfl⟩,⟨_,rfl,.ptr 1 1 0 0 rfl⟩,⟨_,rfl,.same _ nn⟩,⟨_,rfl,.same _ nn⟩,⟨_,rfl,.same _ nn⟩,⟨_,rfl,.ptr 3 3 0 0 rfl⟩,⟨_,rfl,.same _ nn⟩,trivial⟩) ?_
        rintro ⟨wl,ll,kl⟩ ⟨j1,j2,j3,j4,j5,j6⟩
        simp only at j1 j2 j3 j4 j5 j6
        ((conv=>whnf);repeat(refine Xg ?_;conv=>whnf))
        refine bcs_mk (fun h => ?_) (fun h => ?_)
        ·have hjc : wl.length < 4 := by rw [hw8] at h; have := tmod_lt q80 (show (0 : Int) < 4 by omega); simp at h; omega
         have hwj : IntKind.i64.wrap ((ns.length : Int) + (wl.length : Int)) = (ns.length : Int) + wl.length := wrap64 ⟨by omega,by omega⟩
         have hPj := rPick l ((ns.length : Int) + wl.length) 5 hl (by omega)
         have hPb := pickI_bound (l := l) (i := (ns.length : Int) + wl.length) (most := 5) (by omega)
         generalize pickI l ((ns.length : Int) + wl.length) 5 = pw at hPj hPb
         have hKj := rKid l ns.length wl.length hl (by omega) (by omega) (by omega) (by omega)
         have hKb := kidI_bound (l := l) (i := (ns.length : Int)) (j := (wl.length : Int)) (by omega)
         generalize kidI l ns.length wl.length = kw at hKj hKb
         ((conv=>whnf);repeat(refine Xg ?_;conv=>whnf))
         rw [hwj]
         refine hPj.go ?_
         ((conv=>whnf);repeat(refine Xg ?_;conv=>whnf))
         repeat (refine ⟨rfl, ?_⟩; ((conv=>whnf);repeat(refine Xg ?_;conv=>whnf)))
         refine grd_mk (app_ok rfl rfl (by rw [encI_length]) (by simp; omega)) ?_
         ((conv=>whnf);repeat(refine Xg ?_;conv=>whnf))
         repeat (refine ⟨rfl, ?_⟩; ((conv=>whnf);repeat(refine Xg ?_;conv=>whnf)))
         refine hKj.go ?_
         ((conv=>whnf);repeat(refine Xg ?_;conv=>whnf))
         repeat (refine ⟨rfl, ?_⟩; ((conv=>whnf);repeat(refine Xg ?_;conv=>whnf)))
         refine grd_mk (app_ok rfl rfl (by rw [encI_length,j2]) (by simp; omega)) ?_
         ((conv=>whnf);repeat(refine Xg ?_;conv=>whnf))
         repeat (refine ⟨rfl, ?_⟩; ((conv=>whnf);repeat(refine Xg ?_;conv=>whnf)))
         rw [hB]
         ((conv=>whnf);repeat(refine Xg ?_;conv=>whnf))
         exact .mk (wl ++ [IntKind.i64.wrap (1 + pw)],ll,kl ++ [kw]) [(0,0),(1,1),(2,2),(3,3),(18,4),(29,5)] ⟨by simp; omega,by simp; omega,mem_snoc j3 (i64w _),mem_snoc j4 ⟨by omega,by omega⟩,j5,j6⟩
          (conv_mk _ rfl ⟨⟨0,_,rfl,rfl,.same nns⟩,⟨1,_,rfl,rfl,.cons (.agg (.cons (.sl 2 2 0 _ rfl) .nil)) .nil⟩,⟨2,_,rfl,rfl,.same (encNs_nn _)⟩,⟨3,_,rfl,rfl,.cons (.agg (.cons (.same _ nn) (.cons (.same _ nn) (.cons (.same _ nn) (.cons (.same _ nn) (.cons (.slE rfl (by simp)) (.cons (.same _ nn) (.cons (.same _ nn) (.cons (.slE rfl (by simp)) (.cons (.same _ nn) (.cons (.same _ nn) (.cons (.same _ nn) (.cons (.same _ nn) .nil))))))))))))) .nil⟩,⟨18,_,rfl,rfl,.eq (encI_nn _) (by simp [encI])⟩,⟨29,_,rfl,rfl,.eq (encI_nn _) (by simp [encI])⟩,trivial⟩ ⟨⟨_,rfl,.same _ nn⟩,⟨_,rfl,.ptr 0 0 0 0 rfl⟩,⟨_,rfl,.ptr 1 1 0 0 rfl⟩,⟨_,rfl,.same _ nn⟩,⟨_,rfl,.same _ nn⟩,⟨_,rfl,.same _ nn⟩,⟨_,rfl,.ptr 3 3 0 0 rfl⟩,⟨_,rfl,.w64 (by simp) ⟨by simp; omega,by simp; omega⟩⟩,trivial⟩) (by simp; omega)
        ·((conv=>whnf);repeat(refine Xg ?_;conv=>whnf))
         obtain rfl : ll = [] := List.length_eq_zero_iff.1 j6
         exact hQ ⟨2,[],0,0,wl,[],[],kl,zV⟩ _ [(0,0),(1,1),(2,2),(3,3)] (genN_mk ⟨by omega,by omega⟩ (by simp) z0 z0 (by omega) j3 (by simp) (by simp) (by simp) (by simp) (by omega) j4 (okV_leaf z0 z0) (by simp [zV,sizeV,sizeL])) (conv_mk _ rfl ⟨⟨0,_,rfl,rfl,.same nns⟩,⟨1,_,rfl,rfl,.cons (.agg (.cons (.sl 2 2 0 _ rfl) .nil)) .nil⟩,⟨2,_,rfl,rfl,.same (encNs_nn _)⟩,⟨3,_,rfl,rfl,.cons (.agg (.cons (.same _ nn) (.cons (.same _ nn) (.cons (.same _ nn) (.cons (.same _ nn) (.cons (.fz' (id := 4) rfl rfl (by rw [encI_length]; first | omega | (simp only; omega)) (by rw [List.drop_zero]; exact List.take_of_length_le (by rw [encI_length]; first | omega | (simp only; omega))) (encI_nn _)) (.cons (.nil 1) (.cons (.nil 4) (.cons (.fz' (id := 5) rfl rfl (by rw [encI_length]; first | omega | (simp only; omega)) (by rw [List.drop_zero]; exact List.take_of_length_le (by rw [encI_length]; first | omega | (simp only; omega))) (encI_nn _)) (.cons (.same _ nn) (.cons (.same _ nn) (.cons (.same _ nn) (.cons (.nil 4) .nil))))))))))))) .nil⟩,trivial⟩ ⟨⟨_,rfl,.same _ nn⟩,⟨_,rfl,.ptr 0 0 0 0 rfl⟩,⟨_,rfl,.ptr 1 1 0 0 rfl⟩,⟨_,rfl,.same _ nn⟩,⟨_,rfl,.same _ nn⟩,⟨_,rfl,.same _ nn⟩,⟨_,rfl,.ptr 3 3 0 0 rfl⟩,trivial⟩)
      ·obtain ⟨qn,hqn,hqe⟩ : ∃ qn : Nat,qn < 3 ∧ (IntKind.i64.wrap (kk.tdiv 8)).tmod 3 = (qn : Int) := by
        rw [hw8]
        have := tmod_lt q80 (show (0 : Int) < 3 by omega)
        exact ⟨((kk.tdiv 8).tmod 3).toNat,by omega,by omega⟩
       obtain ⟨nm,hnm,hnl⟩ : ∃ nm,([AV.str [],AV.str [80,97,105,114],AV.str []])[0 + ((qn : Nat) : Int).toNat]? = some (.str nm) ∧ nm.length ≤ 4 := by
        rcases (show qn = 0 ∨ qn = 1 ∨ qn = 2 by omega) with rfl | rfl | rfl
        ·exact ⟨[],rfl,by simp⟩
        ·exact ⟨[80,97,105,114],rfl,by simp⟩
        ·exact ⟨[],rfl,by simp⟩
       have bnm : Nat.blt ((qn : Nat) : Int).toNat 3 = true := Nat.ble_eq_true_of_le (by simp; omega)
       ((conv=>whnf);repeat(refine Xg ?_;conv=>whnf))
       rw [hqe]
       ((conv=>whnf);repeat(refine Xg ?_;conv=>whnf))
       repeat ((first | refine ⟨rfl, ?_⟩ | refine grd_mk bnm ?_ | refine opt_mk hnm ?_); ((conv=>whnf);repeat(refine Xg ?_;conv=>whnf)))
       refine ALoop.ph 3 1 ?_
       refine ALoop.at nnΓ (fun a : List Int => a.length ≤ 4 ∧ ∀ w ∈ a,i64 w)
        (fun a => ⟨[(0,.il 1 (encI l)),(2,.ptr 0 0 0),(3,.ptr 1 0 0),(4,.int .i64 n),(5,.int .i64 ns.length),(6,.int .i64 kk),(7,.ptr 3 0 0),(9,.int .i64 a.length)],[(0,.row 25 1 [.agg [.nsl]]),(1,.row 25 1 [.agg [.sl 2 0 ns.length]]),(2,.row 35 12 (encNs ns)),(3,.row 35 12 [.agg [.int .i64 3,.str nm,.int .i64 0,.int .i64 0,.nsl,.nsl,.nsl,.sl 4 0 a.length,.int .i64 0,.int .i64 0,.str [],.nsl]]),(4,.row 3 1 (encI a))],5,181⟩)
        (fun a => 4 - a.length) [] [(0,0),(1,1),(2,2),(3,3),(5,4)] (by simp)
        (conv_mk _ rfl ⟨⟨0,_,rfl,rfl,.same nns⟩,⟨1,_,rfl,rfl,.cons (.agg (.cons (.sl 2 2 0 _ rfl) .nil)) .nil⟩,⟨2,_,rfl,rfl,.same (encNs_nn _)⟩,⟨3,_,rfl,rfl,.cons (.agg (.cons (.same _ nn) (.cons (.same _ nn) (.cons (.same _ nn) (.cons (.same _ nn) (.cons (.same _ nn) (.cons (.same _ nn) (.cons (.same _ nn) (.cons (.nslk 5 4 _ rfl rfl) (.cons (.same _ nn) (.cons (.same _ nn) (.cons (.same _ nn) (.cons (.same _ nn) .nil))))))))))))) .nil⟩,⟨5,_,rfl,rfl,.same .nil⟩,trivial⟩ ⟨⟨_,rfl,.same _ nn⟩,⟨_,rfl,.ptr 0 0 0 0 rfl⟩,⟨_,rfl,.ptr 1 1 0 0 rfl⟩,⟨_,rfl,.same _ nn⟩,⟨_,rfl,.same _ nn⟩,⟨_,rfl,.same _ nn⟩,⟨_,rfl,.ptr 3 3 0 0 rfl⟩,⟨_,rfl,.same _ nn⟩,trivial⟩) ?_
       rintro kl ⟨j1,j4⟩
       ((conv=>whnf);repeat(refine Xg ?_;conv=>whnf))
       refine bcs_mk (fun h => ?_) (fun h => ?_)
       ·have hjc : kl.length < 4 := by
         have a0 := tdiv_le kk0 (show (0 : Int) < 24 by omega)
         have a1 : 0 ≤ kk.tdiv 24 := Int.tdiv_nonneg kk0 (by omega)
         have e1 : IntKind.i64.wrap (kk.tdiv 24) = kk.tdiv 24 := wrap64 ⟨by omega,by omega⟩
         rw [e1] at h
         have := tmod_lt a1 (show (0 : Int) < 4 by omega)
         simp at h
         omega
        have hKj := rKid l ns.length kl.length hl (by omega) (by omega) (by omega) (by omega)
        have hKb := kidI_bound (l := l) (i := (ns.length : Int)) (j := (kl.length : Int)) (by omega)
        generalize kidI l ns.length kl.length = kw at hKj hKb
        ((conv=>whnf);repeat(refine Xg ?_;conv=>whnf))
        refine hKj.go ?_
        ((conv=>whnf);repeat(refine Xg ?_;conv=>whnf))
        repeat (refine ⟨rfl, ?_⟩; ((conv=>whnf);repeat(refine Xg ?_;conv=>whnf)))
        refine grd_mk (app_ok rfl rfl (by rw [encI_length]) (by simp; omega)) ?_
        ((conv=>whnf);repeat(refine Xg ?_;conv=>whnf))
        repeat (refine ⟨rfl, ?_⟩; ((conv=>whnf);repeat(refine Xg ?_;conv=>whnf)))
        exact .mk (kl ++ [kw]) [(0,0),(1,1),(2,2),(3,3),(15,4)] ⟨by simp; omega,mem_snoc j4 ⟨by omega,by omega⟩⟩
         (conv_mk _ rfl ⟨⟨0,_,rfl,rfl,.same nns⟩,⟨1,_,rfl,rfl,.cons (.agg (.cons (.sl 2 2 0 _ rfl) .nil)) .nil⟩,⟨2,_,rfl,rfl,.same (encNs_nn _)⟩,⟨3,_,rfl,rfl,.cons (.agg (.cons (.same _ nn) (.cons (.same _ nn) (.cons (.same _ nn) (.cons (.same _ nn) (.cons (.same _ nn) (.cons (.same _ nn) (.cons (.same _ nn) (.cons (.slE rfl (by simp)) (.cons (.same _ nn) (.cons (.same _ nn) (.cons (.same _ nn) (.cons (.same _ nn) .nil))))))))))))) .nil⟩,⟨15,_,rfl,rfl,.eq (encI_nn _) (by simp [encI])⟩,trivial⟩ ⟨⟨_,rfl,.same _ nn⟩,⟨_,rfl,.ptr 0 0 0 0 rfl⟩,⟨_,rfl,.ptr 1 1 0 0 rfl⟩,⟨_,rfl,.same _ nn⟩,⟨_,rfl,.same _ nn⟩,⟨_,rfl,.same _ nn⟩,⟨_,rfl,.ptr 3 3 0 0 rfl⟩,⟨_,rfl,.w64 (by simp) ⟨by simp; omega,by simp; omega⟩⟩,trivial⟩) (by simp; omega)
       ·((conv=>whnf);repeat(refine Xg ?_;conv=>whnf))
        exact hQ ⟨3,nm,0,0,[],[],[],kl,zV⟩ _ [(0,0),(1,1),(2,2),(3,3)] (genN_mk ⟨by omega,by omega⟩ (by omega) z0 z0 (by simp) (by simp) (by simp) (by simp) (by simp) (by simp) (by omega) j4 (okV_leaf z0 z0) (by simp [zV,sizeV,sizeL])) (conv_mk _ rfl ⟨⟨0,_,rfl,rfl,.same nns⟩,⟨1,_,rfl,rfl,.cons (.agg (.cons (.sl 2 2 0 _ rfl) .nil)) .nil⟩,⟨2,_,rfl,rfl,.same (encNs_nn _)⟩,⟨3,_,rfl,rfl,.cons (.agg (.cons (.same _ nn) (.cons (.same _ nn) (.cons (.same _ nn) (.cons (.same _ nn) (.cons (.nil 1) (.cons (.nil 1) (.cons (.nil 4) (.cons (.fz' (id := 4) rfl rfl (by rw [encI_length]; first | omega | (simp only; omega)) (by rw [List.drop_zero]; exact List.take_of_length_le (by rw [encI_length]; first | omega | (simp only; omega))) (encI_nn _)) (.cons (.same _ nn) (.cons (.same _ nn) (.cons (.same _ nn) (.cons (.nil 4) .nil))))))))))))) .nil⟩,trivial⟩ ⟨⟨_,rfl,.same _ nn⟩,⟨_,rfl,.ptr 0 0 0 0 rfl⟩,⟨_,rfl,.ptr 1 1 0 0 rfl⟩,⟨_,rfl,.same _ nn⟩,⟨_,rfl,.same _ nn⟩,⟨_,rfl,.same _ nn⟩,⟨_,rfl,.ptr 3 3 0 0 rfl⟩,trivial⟩)
     ·have hxn := encN_nn x
      have hV := oValid (ns ++ [x]) (by simp; omega) (fun y hy => by
       rcases List.mem_append.1 hy with hy | hy
       ·have := hT.gen y hy; exact ⟨this.ok,by have := this.vals; omega⟩
       ·simp at hy; rw [hy]; exact ⟨hx.ok,by have := hx.vals; omega⟩)
      have hnn2 := encNs_nn (ns ++ [x])
      have eTk : List.take ns.length (List.drop 0 (encNs ns)) = encNs ns := by rw [List.drop_zero]; exact List.take_of_length_le (by rw [encNs_length]; omega)
      have hxs : encNs (ns ++ [x]) = encNs ns ++ [encN x] := by simp [encNs]
      have hsn := fun h => hT.snoc (x := x) (by omega) hx h
      have hw5 := tmod_lt kk0 (show (0 : Int) < 5 by omega)
      have hlf := hT.leaf (m := kk.tmod 5) ⟨by omega,by omega⟩
      obtain ⟨e,he⟩ : ∃ e,e = validT (ns ++ [x]) := ⟨_,rfl⟩
      rw [← he] at hV hsn
      obtain ⟨kind,name,lo,hi,ws,ls,vals,kids,⟨vk,vn,vs,vks⟩⟩ := x
      ((conv=>whnf);repeat(refine Xg ?_;conv=>whnf))
      refine grd_mk (src_ok (by rw [encNs_length]; omega)) ?_
      rw [eTk]
      ((conv=>whnf);repeat(refine Xg ?_;conv=>whnf))
      refine grd_mk (app_nil rfl (by rw [encNs_length]; omega)) ?_
      ((conv=>whnf);repeat(refine Xg ?_;conv=>whnf))
      refine grd_mk (app_ok rfl rfl rfl (by rw [encNs_length]; simp; omega)) ?_
      ((conv=>whnf);repeat(refine Xg ?_;conv=>whnf))
      refine ACalls.useN nnΓ [(7,0)] hV rfl (.cons (.agg' (.cons (.slE rfl (by rw [encNs_length]; simp)) .nil)) .nil) ⟨⟨7,_,rfl,rfl,.eq hnn2 (by rw [hxs]; rfl)⟩,trivial⟩ rfl ?_
      rintro r m k' ⟨rfl,rfl⟩
      refine ⟨[(0,7)],_,[(7,.row 35 12 (encNs (ns ++ [⟨kind,name,lo,hi,ws,ls,vals,kids,.mk vk vn vs vks⟩])))],8,.same _ nn,⟨⟨0,_,rfl,rfl,.same hnn2⟩,trivial⟩,rfl, ?_⟩
      by_cases e0 : e = 0
      ·subst e0
       ((conv=>whnf);repeat(refine Xg ?_;conv=>whnf))
       exact .mk (ns ++ [⟨kind,name,lo,hi,ws,ls,vals,kids,.mk vk vn vs vks⟩]) [(0,0),(1,1),(7,2)] ⟨hsn rfl,by simp; omega⟩
        (conv_mk _ rfl ⟨⟨0,_,rfl,rfl,.same nns⟩,⟨1,_,rfl,rfl,.cons (.agg (.cons (.slE rfl (by rw [encNs_length]; simp)) .nil)) .nil⟩,⟨7,_,rfl,rfl,.same hnn2⟩,trivial⟩ ⟨⟨_,rfl,.same _ nn⟩,⟨_,rfl,.ptr 0 0 0 0 rfl⟩,⟨_,rfl,.ptr 1 1 0 0 rfl⟩,⟨_,rfl,.same _ nn⟩,⟨_,rfl,.w64 (by simp) ⟨by simp; omega,by simp; omega⟩⟩,trivial⟩) (by simp; omega)
      ·have de : (e == 0) = false := by simpa using e0
       ((conv=>whnf);repeat(refine Xg ?_;conv=>whnf))
       rw [de]
       ((conv=>whnf);repeat(refine Xg ?_;conv=>whnf))
       refine grd_mk (app_ok rfl rfl (by rw [encNs_length]) (by simp; omega)) ?_
       ((conv=>whnf);repeat(refine Xg ?_;conv=>whnf))
       have hlx : encNs (ns ++ [⟨0,[],0,0,[],[],[],[],.mk 0 (kk.tmod 5) [] []⟩]) = encNs ns ++ [encN ⟨0,[],0,0,[],[],[],[],.mk 0 (kk.tmod 5) [] []⟩] := by simp [encNs]
       exact .mk (ns ++ [⟨0,[],0,0,[],[],[],[],.mk 0 (kk.tmod 5) [] []⟩]) [(0,0),(1,1),(9,2)] ⟨hlf,by simp; omega⟩
        (conv_mk _ rfl ⟨⟨0,_,rfl,rfl,.same nns⟩,⟨1,_,rfl,rfl,.cons (.agg (.cons (.slE rfl (by simp)) .nil)) .nil⟩,⟨9,_,rfl,rfl,by rw [hlx]; exact .snoc rfl (.same (encNs_nn _)) (.agg (.cons (.same _ nn) (.cons (.same _ nn) (.cons (.same _ nn) (.cons (.same _ nn) (.cons (.nil 1) (.cons (.nil 1) (.cons (.nil 4) (.cons (.nil 1) (.cons (.same _ nn) (.cons (.same _ nn) (.cons (.same _ nn) (.cons (.nil 4) .nil)))))))))))))⟩,trivial⟩ ⟨⟨_,rfl,.same _ nn⟩,⟨_,rfl,.ptr 0 0 0 0 rfl⟩,⟨_,rfl,.ptr 1 1 0 0 rfl⟩,⟨_,rfl,.same _ nn⟩,⟨_,rfl,.w64 (by simp) ⟨by simp; omega,by simp; omega⟩⟩,trivial⟩) (by simp; omega)
   ·rw [e5]
    ((conv=>whnf);repeat(refine Xg ?_;conv=>whnf))
    rw [hw8]
    obtain ⟨kd,hkd⟩ : ∃ kd,kd = (kk.tdiv 8).tmod 2 := ⟨_,rfl⟩
    rw [← hkd] at m82 ⊢
    have d5 : decide (kd > 5) = false := by simp; omega
    ((conv=>whnf);repeat(refine Xg ?_;conv=>whnf))
    rw [d5]
    ((conv=>whnf);repeat(refine Xg ?_;conv=>whnf))
    refine bcs_join nnΓ (fun x : Nd => GenN x) (fun x => ⟨[(0,.il 1 (encI l)),(2,.ptr 0 0 0),(3,.ptr 1 0 0),(4,.int .i64 n),(5,.int .i64 ns.length),(6,.int .i64 kk),(7,.ptr 3 0 0)],[(0,.row 25 1 [.agg [.nsl]]),(1,.row 25 1 [.agg [.sl 2 0 ns.length]]),(2,.row 35 12 (encNs ns)),(3,.row 35 12 [encN x])],4,181⟩) (fun Qr hQ => ?_) (fun x hx => ?_)
    ·rcases (show kd = 0 ∨ kd = 1 by omega) with rfl | rfl
     ·have hLf := rLeaf (kk.tdiv 8) (Int.tdiv_nonneg kk0 (by omega)) (by have := tdiv_le kk0 (show (0 : Int) < 8 by omega); omega)
      have hlo := leafV_ok (kk.tdiv 8) (Int.tdiv_nonneg kk0 (by omega))
      generalize leafV (kk.tdiv 8) = f at hLf hlo
      obtain ⟨f1,f2,f3,f4⟩ := f
      ((conv=>whnf);repeat(refine Xg ?_;conv=>whnf))
      rw [hw8]
      refine hLf.go ?_
      ((conv=>whnf);repeat(refine Xg ?_;conv=>whnf))
      exact hQ (leafN (.mk f1 f2 f3 f4)) _ [(0,0),(1,1),(2,2),(3,3)] (genN_mk z0 (by simp) z0 z0 (by simp) (by simp) (by simp) (by simp) (by simp) (by simp) (by simp) (by simp) hlo.1 (by omega)) (conv_mk _ rfl ⟨⟨0,_,rfl,rfl,.same nns⟩,⟨1,_,rfl,rfl,.cons (.agg (.cons (.sl 2 2 0 _ rfl) .nil)) .nil⟩,⟨2,_,rfl,rfl,.same (encNs_nn _)⟩,⟨3,_,rfl,rfl,.cons (.agg (.cons (.same _ nn) (.cons (.same _ nn) (.cons (.same _ nn) (.cons (.same _ nn) (.cons (.nil 1) (.cons (.nil 1) (.cons (.nil 4) (.cons (.nil 1) (.cons (.same _ nn) (.cons (.same _ nn) (.cons (.same _ nn) (.cons (.same _ nn) .nil))))))))))))) .nil⟩,trivial⟩ ⟨⟨_,rfl,.same _ nn⟩,⟨_,rfl,.ptr 0 0 0 0 rfl⟩,⟨_,rfl,.ptr 1 1 0 0 rfl⟩,⟨_,rfl,.same _ nn⟩,⟨_,rfl,.same _ nn⟩,⟨_,rfl,.same _ nn⟩,⟨_,rfl,.ptr 3 3 0 0 rfl⟩,trivial⟩)
     ·((conv=>whnf);repeat(refine Xg ?_;conv=>whnf))
      refine bcs_mk (fun h => ?_) (fun h => ?_)
      ·((conv=>whnf);repeat(refine Xg ?_;conv=>whnf))
       exact hQ ⟨1,[],_,_,[],[],[],[],zV⟩ _ [(0,0),(1,1),(2,2),(3,3)] (genN_mk ⟨by omega,by omega⟩ (by simp) (i64w _) (i64w _) (by simp) (by simp) (by simp) (by simp) (by simp) (by simp) (by simp) (by simp) (okV_leaf z0 z0) (by simp [zV,sizeV,sizeL])) (conv_mk _ rfl ⟨⟨0,_,rfl,rfl,.same nns⟩,⟨1,_,rfl,rfl,.cons (.agg (.cons (.sl 2 2 0 _ rfl) .nil)) .nil⟩,⟨2,_,rfl,rfl,.same (encNs_nn _)⟩,⟨3,_,rfl,rfl,.cons (.agg (.cons (.same _ nn) (.cons (.same _ nn) (.cons (.same _ nn) (.cons (.same _ nn) (.cons (.nil 1) (.cons (.nil 1) (.cons (.nil 4) (.cons (.nil 1) (.cons (.same _ nn) (.cons (.same _ nn) (.cons (.same _ nn) (.cons (.nil 4) .nil))))))))))))) .nil⟩,trivial⟩ ⟨⟨_,rfl,.same _ nn⟩,⟨_,rfl,.ptr 0 0 0 0 rfl⟩,⟨_,rfl,.ptr 1 1 0 0 rfl⟩,⟨_,rfl,.same _ nn⟩,⟨_,rfl,.same _ nn⟩,⟨_,rfl,.same _ nn⟩,⟨_,rfl,.ptr 3 3 0 0 rfl⟩,trivial⟩)
      ·((conv=>whnf);repeat(refine Xg ?_;conv=>whnf))
       exact hQ ⟨1,[],_,_,[],[],[],[],zV⟩ _ [(0,0),(1,1),(2,2),(3,3)] (genN_mk ⟨by omega,by omega⟩ (by simp) (i64w _) (i64w _) (by simp) (by simp) (by simp) (by simp) (by simp) (by simp) (by simp) (by simp) (okV_leaf z0 z0) (by simp [zV,sizeV,sizeL])) (conv_mk _ rfl ⟨⟨0,_,rfl,rfl,.same nns⟩,⟨1,_,rfl,rfl,.cons (.agg (.cons (.sl 2 2 0 _ rfl) .nil)) .nil⟩,⟨2,_,rfl,rfl,.same (encNs_nn _)⟩,⟨3,_,rfl,rfl,.cons (.agg (.cons (.same _ nn) (.cons (.same _ nn) (.cons (.same _ nn) (.cons (.same _ nn) (.cons (.nil 1) (.cons (.nil 1) (.cons (.nil 4) (.cons (.nil 1) (.cons (.same _ nn) (.cons (.same _ nn) (.cons (.same _ nn) (.cons (.nil 4) .nil))))))))))))) .nil⟩,trivial⟩ ⟨⟨_,rfl,.same _ nn⟩,⟨_,rfl,.ptr 0 0 0 0 rfl⟩,⟨_,rfl,.ptr 1 1 0 0 rfl⟩,⟨_,rfl,.same _ nn⟩,⟨_,rfl,.same _ nn⟩,⟨_,rfl,.same _ nn⟩,⟨_,rfl,.ptr 3 3 0 0 rfl⟩,trivial⟩)
    ·have hxn := encN_nn x
     have hV := oValid (ns ++ [x]) (by simp; omega) (fun y hy => by
      rcases List.mem_append.1 hy with hy | hy
      ·have := hT.gen y hy; exact ⟨this.ok,by have := this.vals; omega⟩
      ·simp at hy; rw [hy]; exact ⟨hx.ok,by have := hx.vals; omega⟩)
     have hnn2 := encNs_nn (ns ++ [x])
     have eTk : List.take ns.length (List.drop 0 (encNs ns)) = encNs ns := by rw [List.drop_zero]; exact List.take_of_length_le (by rw [encNs_length]; omega)
     have hxs : encNs (ns ++ [x]) = encNs ns ++ [encN x] := by simp [encNs]
     have hsn := fun h => hT.snoc (x := x) (by omega) hx h
     have hw5 := tmod_lt kk0 (show (0 : Int) < 5 by omega)
     have hlf := hT.leaf (m := kk.tmod 5) ⟨by omega,by omega⟩
     obtain ⟨e,he⟩ : ∃ e,e = validT (ns ++ [x]) := ⟨_,rfl⟩
     rw [← he] at hV hsn
     obtain ⟨kind,name,lo,hi,ws,ls,vals,kids,⟨vk,vn,vs,vks⟩⟩ := x
     ((conv=>whnf);repeat(refine Xg ?_;conv=>whnf))
     refine grd_mk (src_ok (by rw [encNs_length]; omega)) ?_
     rw [eTk]
     ((conv=>whnf);repeat(refine Xg ?_;conv=>whnf))
     refine grd_mk (app_nil rfl (by rw [encNs_length]; omega)) ?_
     ((conv=>whnf);repeat(refine Xg ?_;conv=>whnf))
     refine grd_mk (app_ok rfl rfl rfl (by rw [encNs_length]; simp; omega)) ?_
     ((conv=>whnf);repeat(refine Xg ?_;conv=>whnf))
     refine ACalls.useN nnΓ [(7,0)] hV rfl (.cons (.agg' (.cons (.slE rfl (by rw [encNs_length]; simp)) .nil)) .nil) ⟨⟨7,_,rfl,rfl,.eq hnn2 (by rw [hxs]; rfl)⟩,trivial⟩ rfl ?_
     rintro r m k' ⟨rfl,rfl⟩
     refine ⟨[(0,7)],_,[(7,.row 35 12 (encNs (ns ++ [⟨kind,name,lo,hi,ws,ls,vals,kids,.mk vk vn vs vks⟩])))],8,.same _ nn,⟨⟨0,_,rfl,rfl,.same hnn2⟩,trivial⟩,rfl, ?_⟩
     by_cases e0 : e = 0
     ·subst e0
      ((conv=>whnf);repeat(refine Xg ?_;conv=>whnf))
      exact .mk (ns ++ [⟨kind,name,lo,hi,ws,ls,vals,kids,.mk vk vn vs vks⟩]) [(0,0),(1,1),(7,2)] ⟨hsn rfl,by simp; omega⟩
       (conv_mk _ rfl ⟨⟨0,_,rfl,rfl,.same nns⟩,⟨1,_,rfl,rfl,.cons (.agg (.cons (.slE rfl (by rw [encNs_length]; simp)) .nil)) .nil⟩,⟨7,_,rfl,rfl,.same hnn2⟩,trivial⟩ ⟨⟨_,rfl,.same _ nn⟩,⟨_,rfl,.ptr 0 0 0 0 rfl⟩,⟨_,rfl,.ptr 1 1 0 0 rfl⟩,⟨_,rfl,.same _ nn⟩,⟨_,rfl,.w64 (by simp) ⟨by simp; omega,by simp; omega⟩⟩,trivial⟩) (by simp; omega)
     ·have de : (e == 0) = false := by simpa using e0
      ((conv=>whnf);repeat(refine Xg ?_;conv=>whnf))
      rw [de]
      ((conv=>whnf);repeat(refine Xg ?_;conv=>whnf))
      refine grd_mk (app_ok rfl rfl (by rw [encNs_length]) (by simp; omega)) ?_
      ((conv=>whnf);repeat(refine Xg ?_;conv=>whnf))
      have hlx : encNs (ns ++ [⟨0,[],0,0,[],[],[],[],.mk 0 (kk.tmod 5) [] []⟩]) = encNs ns ++ [encN ⟨0,[],0,0,[],[],[],[],.mk 0 (kk.tmod 5) [] []⟩] := by simp [encNs]
      exact .mk (ns ++ [⟨0,[],0,0,[],[],[],[],.mk 0 (kk.tmod 5) [] []⟩]) [(0,0),(1,1),(9,2)] ⟨hlf,by simp; omega⟩
       (conv_mk _ rfl ⟨⟨0,_,rfl,rfl,.same nns⟩,⟨1,_,rfl,rfl,.cons (.agg (.cons (.slE rfl (by simp)) .nil)) .nil⟩,⟨9,_,rfl,rfl,by rw [hlx]; exact .snoc rfl (.same (encNs_nn _)) (.agg (.cons (.same _ nn) (.cons (.same _ nn) (.cons (.same _ nn) (.cons (.same _ nn) (.cons (.nil 1) (.cons (.nil 1) (.cons (.nil 4) (.cons (.nil 1) (.cons (.same _ nn) (.cons (.same _ nn) (.cons (.same _ nn) (.cons (.nil 4) .nil)))))))))))))⟩,trivial⟩ ⟨⟨_,rfl,.same _ nn⟩,⟨_,rfl,.ptr 0 0 0 0 rfl⟩,⟨_,rfl,.ptr 1 1 0 0 rfl⟩,⟨_,rfl,.same _ nn⟩,⟨_,rfl,.w64 (by simp) ⟨by simp; omega,by simp; omega⟩⟩,trivial⟩) (by simp; omega)
 ·have hlt : ns.length = n := by simp at h; omega
  ((conv=>whnf);repeat(refine Xg ?_;conv=>whnf))
  exact fin_mk (r' := .agg [.sl 0 0 ns.length]) (m' := tM ns) (n' := 1) [(2,0)] rfl ⟨⟨2,_,rfl,rfl,.same (encNs_nn _)⟩,trivial⟩ (.agg' (.cons (.sl 2 0 0 _ rfl) .nil)) ⟨ns,hT,by omega,rfl,rfl,rfl⟩
end Go.Proofs.YtnookkohfkjbcaaGreatDoor
namespace Go.Proofs
open Go.Shelf
def Tryz.lays129_ren : Go.Shelf.Ren := ⟨fun | 129 => 137 | n => n, fun | 53 => 134 | 3 => 3 | 4 => 4 | 46 => 161 | 5 => 5 | 9 => 9 | n => n, fun | n => n⟩
theorem Tryz.lays129 : Go.Proofs.Lays.n129 Tryz.prog Tryz.lays129_ren := {
 mixed := by kernel_rfl
 f129 := Tryz.func137.trans (congrArg some (by kernel_rfl))
 t3 := Tryz.underlying3
 a3 := Tryz.isAgg3
 z3 := Tryz.sizeOf3
 v3 := Tryz.zeroValue3
 t4 := Tryz.underlying4
 a4 := Tryz.isAgg4
 z4 := Tryz.sizeOf4
 v4 := Tryz.zeroValue4
 t5 := Tryz.underlying5
 a5 := Tryz.isAgg5
 z5 := Tryz.sizeOf5
 v5 := Tryz.zeroValue5
 t9 := Tryz.underlying9
 a9 := Tryz.isAgg9
 z9 := Tryz.sizeOf9
 v9 := Tryz.zeroValue9
 t46 := Tryz.underlying161
 a46 := Tryz.isAgg161
 z46 := Tryz.sizeOf161
 v46 := Tryz.zeroValue161
 t53 := Tryz.underlying134
 a53 := Tryz.isAgg134
 z53 := Tryz.sizeOf134
 v53 := Tryz.zeroValue134 }
theorem Tryz.bits_Len64 (x : Int) (w : World) (h0 : 0 ≤ x) (h1 : x ≤ 18446744073709551615) :
  Calls Tryz.prog 137 #[.int .u64 x] w fun e w' => e = .returned (.int .i64 (Lib.bitLen x.toNat)) ∧ w' = w := Any.bits_Len64 Tryz.lays129 x w h0 h1
def Tryz.lays317_ren : Go.Shelf.Ren := ⟨fun | 317 => 136 | n => n, fun | 3 => 3 | 46 => 161 | n => n, fun | n => n⟩
theorem Tryz.lays317 : Go.Proofs.Lays.n317 Tryz.prog Tryz.lays317_ren := {
 mixed := by kernel_rfl
 f317 := Tryz.func136.trans (congrArg some (by kernel_rfl))
 t3 := Tryz.underlying3
 a3 := Tryz.isAgg3
 z3 := Tryz.sizeOf3
 v3 := Tryz.zeroValue3
 t46 := Tryz.underlying161
 a46 := Tryz.isAgg161
 z46 := Tryz.sizeOf161
 v46 := Tryz.zeroValue161 }
open Go.Lib in
theorem Tryz.internal_strconv_log10Pow2 (x : Nat) (h : x ≤ 64) (w : World) :
  Calls Tryz.prog 136 #[.int .i64 x] w fun e w' => e = .returned (.int .i64 (Lib.l10 x)) ∧ w' = w := Any.internal_strconv_log10Pow2 Tryz.lays317 x h w
open Go.Lib in
def Tryz.lays283_ren : Go.Shelf.Ren := ⟨fun | 283 => 124 | n => n, fun | 3 => 3 | 9 => 9 | 4 => 4 | n => n, fun | n => n⟩
theorem Tryz.lays283 : Go.Proofs.Lays.n283 Tryz.prog Tryz.lays283_ren := {
 mixed := by kernel_rfl
 f283 := Tryz.func124.trans (congrArg some (by kernel_rfl))
 t3 := Tryz.underlying3
 a3 := Tryz.isAgg3
 z3 := Tryz.sizeOf3
 v3 := Tryz.zeroValue3
 t4 := Tryz.underlying4
 a4 := Tryz.isAgg4
 z4 := Tryz.sizeOf4
 v4 := Tryz.zeroValue4
 t9 := Tryz.underlying9
 a9 := Tryz.isAgg9
 z9 := Tryz.sizeOf9
 v9 := Tryz.zeroValue9 }
open Go.Lib in
theorem Tryz.internal_strconv_small (i : Nat) (h : i < 100) (w : World) :
  Calls Tryz.prog 124 #[.int .i64 i] w fun e w' => e = .returned (.string ⟨(Lib.decDigits i).toArray⟩) ∧ w' = w := Any.internal_strconv_small Tryz.lays283 i h w
def Tryz.lays285_ren : Go.Shelf.Ren := ⟨fun | 285 => 126 | n => n, fun | 37 => 88 | 53 => 134 | 3 => 3 | 4 => 4 | 51 => 177 | 9 => 9 | 5 => 5 | 0 => 0 | n => n, fun | n => n⟩
theorem Tryz.lays285 : Go.Proofs.Lays.n285 Tryz.prog Tryz.lays285_ren := {
 mixed := by kernel_rfl
 f285 := Tryz.func126.trans (congrArg some (by kernel_rfl))
 t0 := Tryz.underlying0
 a0 := Tryz.isAgg0
 z0 := Tryz.sizeOf0
 v0 := Tryz.zeroValue0
 t3 := Tryz.underlying3
 a3 := Tryz.isAgg3
 z3 := Tryz.sizeOf3
 v3 := Tryz.zeroValue3
 t4 := Tryz.underlying4
 a4 := Tryz.isAgg4
 z4 := Tryz.sizeOf4
 v4 := Tryz.zeroValue4
 t5 := Tryz.underlying5
 a5 := Tryz.isAgg5
 z5 := Tryz.sizeOf5
 v5 := Tryz.zeroValue5
 t9 := Tryz.underlying9
 a9 := Tryz.isAgg9
 z9 := Tryz.sizeOf9
 v9 := Tryz.zeroValue9
 t37 := Tryz.underlying88
 a37 := Tryz.isAgg88
 z37 := Tryz.sizeOf88
 v37 := Tryz.zeroValue88
 t51 := Tryz.underlying177
 a51 := Tryz.isAgg177
 z51 := Tryz.sizeOf177
 v51 := Tryz.zeroValue177
 t53 := Tryz.underlying134
 a53 := Tryz.isAgg134
 z53 := Tryz.sizeOf134
 v53 := Tryz.zeroValue134 }
open Go.RowKit Go.Sort Go.Lib in
theorem Tryz.internal_strconv_formatBase10 (blk off cap : Nat) (u : Nat) (d : Array UInt8) (w : World) (hH : Holds (fun (b : UInt8) => Value.int .u8 (b.toNat : Int)) w blk off d) (hu : u < 10 ^ d.size) (hu64 : u < 18446744073709551616) (hsz : d.size < 4611686018427387904) :
  Calls Tryz.prog 126 #[.slice (some ⟨blk, off, none⟩) d.size cap, .int .u64 u] w fun e w' =>
   e = .returned (.tuple #[]) ∧ ∃ (n v' : Nat) (dk : Array UInt8), w' = (putRow (fun (b : UInt8) => Value.int .u8 (b.toNat : Int)) w blk off dk).drewN n ∧ FmtInv d.size u 0 v' dk := Any.internal_strconv_formatBase10 Tryz.lays285 blk off cap u d w hH hu hu64 hsz
def Tryz.laysC172_ren : Go.Shelf.Ren := ⟨fun | 172 => 51 | 244 => 83 | 245 => 84 | 247 => 106 | 279 => 107 | 280 => 108 | 281 => 109 | 282 => 110 | 287 => 128 | 316 => 129 | 171 => 50 | 205 => 130 | 321 => 141 | 322 => 142 | 243 => 82 | 246 => 105 | 283 => 124 | 284 => 125 | 285 => 126 | 286 => 127 | 129 => 137 | 317 => 136 | 318 => 138 | 319 => 139 | 320 => 140 | 337 => 146 | 338 => 147 | n => n, fun | 9 => 9 | 3 => 3 | 75 => 96 | 76 => 97 | 4 => 4 | 5 => 5 | 167 => 151 | 37 => 88 | 0 => 0 | 85 => 152 | 2 => 2 | 168 => 154 | 53 => 134 | 175 => 167 | 46 => 161 | 210 => 171 | 127 => 181 | 145 => 184 | 143 => 182 | 21 => 21 | 171 => 162 | 173 => 165 | 212 => 176 | 51 => 177 | 20 => 20 | 213 => 178 | 232 => 189 | 233 => 190 | 80 => 191 | n => n, fun | 15 => 0 | 16 => 1 | 17 => 2 | 18 => 3 | 19 => 4 | n => n⟩
theorem Tryz.laysC172 : Go.Proofs.LaysC.n172 Tryz.prog Tryz.laysC172_ren := {
 mixed := by kernel_rfl
 f129 := Tryz.func137.trans (congrArg some (by kernel_rfl))
 f171 := Tryz.func50.trans (congrArg some (by kernel_rfl))
 f172 := Tryz.func51.trans (congrArg some (by kernel_rfl))
 f205 := Tryz.func130.trans (congrArg some (by kernel_rfl))
 f243 := Tryz.func82.trans (congrArg some (by kernel_rfl))
 f244 := Tryz.func83.trans (congrArg some (by kernel_rfl))
 f245 := Tryz.func84.trans (congrArg some (by kernel_rfl))
 f246 := Tryz.func105.trans (congrArg some (by kernel_rfl))
 f247 := Tryz.func106.trans (congrArg some (by kernel_rfl))
 f279 := Tryz.func107.trans (congrArg some (by kernel_rfl))
 f280 := Tryz.func108.trans (congrArg some (by kernel_rfl))
 f281 := Tryz.func109.trans (congrArg some (by kernel_rfl))
 f282 := Tryz.func110.trans (congrArg some (by kernel_rfl))
 f283 := Tryz.func124.trans (congrArg some (by kernel_rfl))
 f284 := Tryz.func125.trans (congrArg some (by kernel_rfl))
 f285 := Tryz.func126.trans (congrArg some (by kernel_rfl))
 f286 := Tryz.func127.trans (congrArg some (by kernel_rfl))
 f287 := Tryz.func128.trans (congrArg some (by kernel_rfl))
 f316 := Tryz.func129.trans (congrArg some (by kernel_rfl))
 f317 := Tryz.func136.trans (congrArg some (by kernel_rfl))
 f318 := Tryz.func138.trans (congrArg some (by kernel_rfl))
 f319 := Tryz.func139.trans (congrArg some (by kernel_rfl))
 f320 := Tryz.func140.trans (congrArg some (by kernel_rfl))
 f321 := Tryz.func141.trans (congrArg some (by kernel_rfl))
 f322 := Tryz.func142.trans (congrArg some (by kernel_rfl))
 f337 := Tryz.func146.trans (congrArg some (by kernel_rfl))
 f338 := Tryz.func147.trans (congrArg some (by kernel_rfl))
 t0 := Tryz.underlying0
 a0 := Tryz.isAgg0
 z0 := Tryz.sizeOf0
 v0 := Tryz.zeroValue0
 t2 := Tryz.underlying2
 a2 := Tryz.isAgg2
 z2 := Tryz.sizeOf2
 v2 := Tryz.zeroValue2
 t3 := Tryz.underlying3
 a3 := Tryz.isAgg3
 z3 := Tryz.sizeOf3
 v3 := Tryz.zeroValue3
 t4 := Tryz.underlying4
 a4 := Tryz.isAgg4
 z4 := Tryz.sizeOf4
 v4 := Tryz.zeroValue4
 t5 := Tryz.underlying5
 a5 := Tryz.isAgg5
 z5 := Tryz.sizeOf5
 v5 := Tryz.zeroValue5
 t9 := Tryz.underlying9
 a9 := Tryz.isAgg9
 z9 := Tryz.sizeOf9
 v9 := Tryz.zeroValue9
 t20 := Tryz.underlying20
 a20 := Tryz.isAgg20
 z20 := Tryz.sizeOf20
 v20 := Tryz.zeroValue20
 t21 := Tryz.underlying21
 a21 := Tryz.isAgg21
 z21 := Tryz.sizeOf21
 v21 := Tryz.zeroValue21
 t37 := Tryz.underlying88
 a37 := Tryz.isAgg88
 z37 := Tryz.sizeOf88
 v37 := Tryz.zeroValue88
 t46 := Tryz.underlying161
 a46 := Tryz.isAgg161
 z46 := Tryz.sizeOf161
 v46 := Tryz.zeroValue161
 t51 := Tryz.underlying177
 a51 := Tryz.isAgg177
 z51 := Tryz.sizeOf177
 v51 := Tryz.zeroValue177
 t53 := Tryz.underlying134
 a53 := Tryz.isAgg134
 z53 := Tryz.sizeOf134
 v53 := Tryz.zeroValue134
 t75 := Tryz.underlying96
 a75 := Tryz.isAgg96
 z75 := Tryz.sizeOf96
 v75 := Tryz.zeroValue96
 t76 := Tryz.underlying97
 a76 := Tryz.isAgg97
 z76 := Tryz.sizeOf97
 v76 := Tryz.zeroValue97
 t85 := Tryz.underlying152
 a85 := Tryz.isAgg152
 z85 := Tryz.sizeOf152
 v85 := Tryz.zeroValue152
 t127 := Tryz.underlying181
 a127 := Tryz.isAgg181
 z127 := Tryz.sizeOf181
 v127 := Tryz.zeroValue181
 t143 := Tryz.underlying182
 a143 := Tryz.isAgg182
 z143 := Tryz.sizeOf182
 v143 := Tryz.zeroValue182
 t145 := Tryz.underlying184
 a145 := Tryz.isAgg184
 z145 := Tryz.sizeOf184
 v145 := Tryz.zeroValue184
 t167 := Tryz.underlying151
 a167 := Tryz.isAgg151
 z167 := Tryz.sizeOf151
 v167 := Tryz.zeroValue151
 t168 := Tryz.underlying154
 a168 := Tryz.isAgg154
 z168 := Tryz.sizeOf154
 v168 := Tryz.zeroValue154
 t171 := Tryz.underlying162
 a171 := Tryz.isAgg162
 z171 := Tryz.sizeOf162
 v171 := Tryz.zeroValue162
 t173 := Tryz.underlying165
 a173 := Tryz.isAgg165
 z173 := Tryz.sizeOf165
 v173 := Tryz.zeroValue165
 t175 := Tryz.underlying167
 a175 := Tryz.isAgg167
 z175 := Tryz.sizeOf167
 v175 := Tryz.zeroValue167
 t210 := Tryz.underlying171
 a210 := Tryz.isAgg171
 z210 := Tryz.sizeOf171
 v210 := Tryz.zeroValue171
 t212 := Tryz.underlying176
 a212 := Tryz.isAgg176
 z212 := Tryz.sizeOf176
 v212 := Tryz.zeroValue176
 t213 := Tryz.underlying178
 a213 := Tryz.isAgg178
 z213 := Tryz.sizeOf178
 t232 := Tryz.underlying189
 a232 := Tryz.isAgg189
 z232 := Tryz.sizeOf189
 v232 := Tryz.zeroValue189
 t233 := Tryz.underlying190
 a233 := Tryz.isAgg190
 z233 := Tryz.sizeOf190
 v233 := Tryz.zeroValue190
 g15 := by kernel_rfl
 g16 := by kernel_rfl
 g17 := by kernel_rfl
 g18 := by kernel_rfl
 g19 := by kernel_rfl
 t80 := Tryz.underlying191
 a80 := Tryz.isAgg191
 z80 := Tryz.sizeOf191
 v80 := Tryz.zeroValue191
 i0 := by kernel_rfl
 i2 := by kernel_rfl
 i3 := by kernel_rfl
 i4 := by kernel_rfl
 i5 := by kernel_rfl
 i9 := by kernel_rfl
 i20 := by kernel_rfl
 i21 := by kernel_rfl
 i37 := by kernel_rfl
 i46 := by kernel_rfl
 i51 := by kernel_rfl
 i53 := by kernel_rfl
 i75 := by kernel_rfl
 i76 := by kernel_rfl
 i80 := by kernel_rfl
 i85 := by kernel_rfl
 i127 := by kernel_rfl
 i143 := by kernel_rfl
 i145 := by kernel_rfl
 i167 := by kernel_rfl
 i168 := by kernel_rfl
 i171 := by kernel_rfl
 i173 := by kernel_rfl
 i175 := by kernel_rfl
 i210 := by kernel_rfl
 i212 := by kernel_rfl
 i232 := by kernel_rfl
 i233 := by kernel_rfl
 m15 := by kernel_rfl
 m16 := by kernel_rfl
 m17 := by kernel_rfl
 m18 := by kernel_rfl
 m19 := by kernel_rfl
 c0 := by kernel_rfl
 c2 := by kernel_rfl
 c3 := by kernel_rfl
 c4 := by kernel_rfl
 c5 := by kernel_rfl
 c9 := by kernel_rfl
 c20 := by kernel_rfl
 c21 := by kernel_rfl
 c37 := by kernel_rfl
 c46 := by kernel_rfl
 c51 := by kernel_rfl
 c53 := by kernel_rfl
 c75 := by kernel_rfl
 c76 := by kernel_rfl
 c80 := by kernel_rfl
 c85 := by kernel_rfl
 c127 := by kernel_rfl
 c143 := by kernel_rfl
 c145 := by kernel_rfl
 c167 := by kernel_rfl
 c168 := by kernel_rfl
 c171 := by kernel_rfl
 c173 := by kernel_rfl
 c175 := by kernel_rfl
 c210 := by kernel_rfl
 c212 := by kernel_rfl
 c213 := by kernel_rfl
 c232 := by kernel_rfl
 c233 := by kernel_rfl }
open Go.RowKit in
theorem Tryz.strconv_Atoi_ok (s : ByteArray) (hmax : s.size ≤ 9223372036854775806) (v : Int) (h : Lib.atoiAll s.data.toList = .ok v) (w : World) :
  Calls Tryz.prog 51 #[.string s] w fun e w' => e = .returned (.tuple #[.int .i64 v, .nilIface]) ∧ (w' = w ∨ ∃ t, w' = Lib.bytesWorld w 5 t) := Any.strconv_Atoi_ok Tryz.laysC172 s hmax v h w
open Go.RowKit in
theorem Tryz.strconv_Atoi_syntax (s : ByteArray) (hlim : s.size ≤ 281474976710656) (h : Lib.atoiAll s.data.toList = (Lib.atoiAll [])) (ev : Value) (w : World) (hv : w.cell? ⟨0, 0, none⟩ = some ev) (hev : ev = .nilIface ∨ ∃ te pe, ev = .iface te pe) :
  Calls Tryz.prog 51 #[.string s] w fun e w' => ∃ N, e = .returned (.tuple #[.int .i64 (0), .iface 154 (.pointer (some ⟨N, 0, none⟩))]) ∧ w.heap.size ≤ N ∧ w'.heap[N]? = some (.cells #[.string ⟨#[65, 116, 111, 105]⟩, .string s, ev] 171 (0, 0)) ∧ Below w.heap.size w w' := Any.strconv_Atoi_syntax Tryz.laysC172 s hlim h ev w hv hev
open Go.RowKit in
theorem Tryz.strconv_Atoi_range (s : ByteArray) (hlim : s.size ≤ 281474976710656) (h : Lib.atoiAll s.data.toList = .range) (ev : Value) (w : World) (hv : w.cell? ⟨1, 0, none⟩ = some ev) (hev : ev = .nilIface ∨ ∃ te pe, ev = .iface te pe) :
  Calls Tryz.prog 51 #[.string s] w fun e w' => ∃ N, e = .returned (.tuple #[.int .i64 (Lib.atoiSat s.data.toList), .iface 154 (.pointer (some ⟨N, 0, none⟩))]) ∧ w.heap.size ≤ N ∧ w'.heap[N]? = some (.cells #[.string ⟨#[65, 116, 111, 105]⟩, .string s, ev] 171 (0, 0)) ∧ Below w.heap.size w w' := Any.strconv_Atoi_range Tryz.laysC172 s hlim h ev w hv hev
end Go.Proofs
namespace Go.Proofs.YtnookkohfkjbcaaGreatDoor
open Go Go.Ax Go.Proofs
set_option maxRecDepth 1000000
def saysTrue (r : AV) : Prop := match r with | .bool b => (match b with | true => True | false => False) | _ => False
theorem saysTrue_eq {r : AV} (h : saysTrue r) : r = .bool true := by
 unfold saysTrue at h
 split at h
 ·split at h
  ·rfl
  ·exact h.elim
 ·exact h.elim
def gz : List (Nat × AV) := [(0, .ifc 182 (.ip (.agg []))), (1, .ifc 182 (.ip (.agg []))), (2, .agg ([.int .u64 1, .int .u64 10, .int .u64 100, .int .u64 1000, .int .u64 10000, .int .u64 100000, .int .u64 1000000, .int .u64 10000000, .int .u64 100000000, .int .u64 1000000000, .int .u64 10000000000, .int .u64 100000000000, .int .u64 1000000000000, .int .u64 10000000000000, .int .u64 100000000000000, .int .u64 1000000000000000, .int .u64 10000000000000000, .int .u64 100000000000000000, .int .u64 1000000000000000000, .int .u64 10000000000000000000]))]
end Go.Proofs.YtnookkohfkjbcaaGreatDoor
