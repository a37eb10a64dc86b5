/- For every input (a slice of integers and an integer), refuterlaw31.DiffItself returns true, and its arguments read behind the call as they read before (the card DiffItselfCardSaid, the full form). Conditions: the package-level variables that the row lists hold, when the call begins, what the program's text lays (the card ties them to it); no bound on sizes. -/
import Derived.Test.YtnookkohfkjbcaaGreatDoorAx15
import Derived.Test.YtnookkohfkjbcaaGreatDoorCards
import Derived.Test.YtnookkohfkjbcaaGreatDoorTie
import Derived.Lib.LaidIn
set_option linter.unusedVariables false
namespace Go.Proofs.YtnookkohfkjbcaaGreatDoor
open Go Go.Ax Go.Proofs
set_option maxRecDepth 100000
set_option maxHeartbeats 8000000
theorem cvIp {mem : Mem} {id : Nat} {x : Nd} (h : lk mem id = some (.row 35 12 [encN x])) : Cv mem [] (.ptr id 0 0) (.ip (encN x)) := by
 refine .fzp id 0 0 _ _ _ (encN x) _ h rfl rfl (by omega) (fun k c c' h1 h2 => ?_)
 rw [Nat.zero_add] at h1
 rw [h1] at h2
 cases h2
 exact .same _ ((encN_nn x).cells.get k c h1)
theorem scTup2 {n : Int} {b : Bool} : Sc (.tup [.int .i64 n, .bool b]) := .tup _ fun j c h => by
 match j, h with
 | 0, h => simp at h; subst h; exact .int _ _
 | 1, h => simp at h; subst h; exact .bool _
 | j + 2, h => simp at h
theorem dOption (a b : Nd) (k : Int) (hk : i64 k) (ha : OptN a) (hb : OptN b) (hll : ∀ s ∈ a.labels, s.length ≤ 4294967296) (hbl : b.labels.length ≤ 1000) :
  PureC Tryz.prog gz 8 [encN a, encN b, .int .i64 k] (.tup [.int .i64 (optR a b k).1, .bool (optR a b k).2]) := by
 have har := ha.rng
 have hbr := hb.rng
 have hOa := dOptions a ha
 have hOb := dOptions b hb
 have hob := optsN_bound hb
 have hoa := optsN_bound ha
 have hC := fun hk2 hab => dCount a b k.toNat ha hb hk2 hab hll hbl
 have hna := encN_nn a
 have hnb := encN_nn b
 have eo : (optR a b k) = if k < 0 ∨ optsN a ≤ k ∨ optsN b = 0 then (0, false)
  else if a.kind = 1 ∧ b.kind = 1 then (min (max (a.lo + k) b.lo) b.hi - b.lo, decide (min (max (a.lo + k) b.lo) b.hi = a.lo + k))
  else if (cntR a b k.toNat).2 = true then ((cntR a b k.toNat).1, true) else (min k (optsN b - 1), false) := rfl
 have hka : optsN a ≠ 0 → a.kind = 1 ∨ a.kind = 2 := fun h => by
  unfold optsN at h
  split at h
  ·omega
  ·split at h
   ·omega
   ·exact absurd rfl h
 have hkb : optsN b ≠ 0 → b.kind = 1 ∨ b.kind = 2 := fun h => by
  unfold optsN at h
  split at h
  ·omega
  ·split at h
   ·omega
   ·exact absurd rfl h
 have hxa : a.kind = 1 → optsN a = a.hi - a.lo + 1 := fun h => by unfold optsN; rw [if_pos h]
 rw [eo]
 generalize cntR a b k.toNat = cr at hC ⊢
 generalize optsN a = oa at hOa hoa hC hka hxa ⊢
 generalize optsN b = ob at hOb hob hkb ⊢
 obtain ⟨ca, cb⟩ := cr
 have hfin : ∀ (r1 : Int) (r2 : Bool) (x : Int × Bool) (mem : Mem) (n : Nat), r1 = x.1 → r2 = x.2 → Fini 0 (fun r' m n => r' = AV.tup [.int .i64 x.1, .bool x.2] ∧ m = [] ∧ n = 0) (.tup [.int .i64 r1, .bool r2]) mem n := by
  rintro r1 r2 x mem n rfl rfl
  exact fin_pure nn ⟨rfl, rfl, rfl⟩
 refine acalls_go nngz Tryz.func8 rfl ?_
 obtain ⟨kind, name, lo, hi, ws, ls, vals, kids, ⟨vk, vn, vs, vks⟩⟩ := a
 obtain ⟨kind', name', lo', hi', ws', ls', vals', kids', ⟨vk', vn', vs', vks'⟩⟩ := b
 simp only at har hbr hka hkb hC hxa ⊢
 by_cases h0 : k < 0
 ·rw [if_pos (.inl h0)]
  have d0 : decide (k < 0) = true := by simpa using h0
  ((conv=>whnf);repeat(refine Xg ?_;conv=>whnf))
  rw [d0]
  ((conv=>whnf);repeat(refine Xg ?_;conv=>whnf))
  exact fin_pure nn ⟨rfl, rfl, rfl⟩
 ·have d0 : decide (k < 0) = false := by simpa using h0
  ((conv=>whnf);repeat(refine Xg ?_;conv=>whnf))
  rw [d0]
  ((conv=>whnf);repeat(refine Xg ?_;conv=>whnf))
  refine ACalls.lend nngz hOa.glob (.cons (cvIp rfl) .nil) ?_
  rintro r m n ⟨rfl, rfl, rfl⟩
  refine ⟨.int _ _, ?_⟩
  by_cases h1 : oa ≤ k
  ·rw [if_pos (.inr (.inl h1))]
   have d1 : decide (k ≥ oa) = true := by simpa using h1
   ((conv=>whnf);repeat(refine Xg ?_;conv=>whnf))
   rw [d1]
   ((conv=>whnf);repeat(refine Xg ?_;conv=>whnf))
   exact fin_pure nn ⟨rfl, rfl, rfl⟩
  ·have d1 : decide (k ≥ oa) = false := by simp; omega
   ((conv=>whnf);repeat(refine Xg ?_;conv=>whnf))
   rw [d1]
   ((conv=>whnf);repeat(refine Xg ?_;conv=>whnf))
   refine ACalls.lend nngz hOb.glob (.cons (cvIp rfl) .nil) ?_
   rintro r m n ⟨rfl, rfl, rfl⟩
   refine ⟨.int _ _, ?_⟩
   by_cases h2 : ob = 0
   ·rw [if_pos (.inr (.inr h2))]
    subst h2
    ((conv=>whnf);repeat(refine Xg ?_;conv=>whnf))
    exact fin_pure nn ⟨rfl, rfl, rfl⟩
   ·have d2 : (ob == 0) = false := by simpa using h2
    rw [if_neg (by omega)]
    ((conv=>whnf);repeat(refine Xg ?_;conv=>whnf))
    rw [d2]
    have hka := hka (by omega)
    have hkb := hkb h2
    by_cases hrr : kind = 1 ∧ kind' = 1
    ·rw [if_pos hrr]
     obtain ⟨rfl, rfl⟩ := hrr
     have hxa := hxa rfl
     have hw : IntKind.i64.wrap (lo + k) = lo + k := wrap64 ⟨by omega, by omega⟩
     have en : (if hi' < (if lo' > lo + k then lo' else lo + k) then hi' else if lo' > lo + k then lo' else lo + k) = min (max (lo + k) lo') hi' := by split <;> split <;> omega
     ((conv=>whnf);repeat(refine Xg ?_;conv=>whnf))
     rw [hw]
     refine hfin _ _ _ _ _ ?_ ?_
     ·simp only
      rw [en]
      exact wrap64 ⟨by omega, by omega⟩
     ·simp only
      rw [en, Bool.eq_iff_iff]
      simp
    ·rw [if_neg hrr]
     have hC := hC (by omega) (by omega)
     have hkk : ((k.toNat : Nat) : Int) = k := by omega
     rw [hkk] at hC
     rcases (show kind = 2 ∨ (kind = 1 ∧ kind' = 2) by omega) with rfl | ⟨rfl, rfl⟩
     ·((conv=>whnf);repeat(refine Xg ?_;conv=>whnf))
      refine ACalls.lend nngz hC (.cons (cvIp rfl) (.cons (cvIp rfl) (.cons (.same _ nn) .nil))) ?_
      rintro r m n ⟨rfl, rfl, rfl⟩
      refine ⟨scTup2, ?_⟩
      cases cb with
      | true =>
       rw [if_pos rfl]
       ((conv=>whnf);repeat(refine Xg ?_;conv=>whnf))
       exact fin_pure nn ⟨rfl, rfl, rfl⟩
      | false =>
       rw [if_neg (by simp)]
       ((conv=>whnf);repeat(refine Xg ?_;conv=>whnf))
       refine ACalls.lend nngz hOb.glob (.cons (cvIp rfl) .nil) ?_
       rintro r m n ⟨rfl, rfl, rfl⟩
       refine ⟨.int _ _, ?_⟩
       have hwb : IntKind.i64.wrap (ob - 1) = ob - 1 := wrap64 ⟨by omega, by omega⟩
       ((conv=>whnf);repeat(refine Xg ?_;conv=>whnf))
       rw [hwb]
       refine hfin _ _ _ _ _ ?_ rfl
       simp only
       split <;> omega
     ·((conv=>whnf);repeat(refine Xg ?_;conv=>whnf))
      refine ACalls.lend nngz hC (.cons (cvIp rfl) (.cons (cvIp rfl) (.cons (.same _ nn) .nil))) ?_
      rintro r m n ⟨rfl, rfl, rfl⟩
      refine ⟨scTup2, ?_⟩
      cases cb with
      | true =>
       rw [if_pos rfl]
       ((conv=>whnf);repeat(refine Xg ?_;conv=>whnf))
       exact fin_pure nn ⟨rfl, rfl, rfl⟩
      | false =>
       rw [if_neg (by simp)]
       ((conv=>whnf);repeat(refine Xg ?_;conv=>whnf))
       refine ACalls.lend nngz hOb.glob (.cons (cvIp rfl) .nil) ?_
       rintro r m n ⟨rfl, rfl, rfl⟩
       refine ⟨.int _ _, ?_⟩
       have hwb : IntKind.i64.wrap (ob - 1) = ob - 1 := wrap64 ⟨by omega, by omega⟩
       ((conv=>whnf);repeat(refine Xg ?_;conv=>whnf))
       rw [hwb]
       refine hfin _ _ _ _ _ ?_ rfl
       simp only
       split <;> omega
set_option maxHeartbeats 8000000
def l8 : List (List UInt8) := [[45, 49], [48], [50], [48, 50], [45, 48], [97], [57,50,50,51,51,55,50,48,51,54,56,53,52,55,55,53,56,48,56], []]
def LB : List (List UInt8) := [120] :: (l8 ++ abcd)
theorem LB_len {s : List UInt8} (h : s ∈ LB) : s.length ≤ 19 := by
 simp only [LB, l8, abcd, List.cons_append, List.nil_append, List.mem_cons, List.not_mem_nil, or_false] at h
 rcases h with rfl | rfl | rfl | rfl | rfl | rfl | rfl | rfl | rfl | rfl | rfl | rfl | rfl <;> simp
set_option maxHeartbeats 8000000
theorem sEqI (l m : List Int) (hl : l.length ≤ 4294967296) : PureC Tryz.prog [] 60 [.il 1 (encI l),.il 1 (encI m)] (.bool (decide (l = m))) := by
 refine acalls_go nnΓ Tryz.func60 rfl ?_
 ((conv=>whnf);repeat(refine Xg ?_;conv=>whnf))
 refine bcs_mk (fun h => ?_) (fun h => ?_)
 ·have h1 : l.length ≠ m.length := by rw [encI_length,encI_length] at h; simp at h; omega
  rw [decide_eq_false (fun e => h1 (by rw [e]))]
  ((conv=>whnf);repeat(refine Xg ?_;conv=>whnf))
  exact fin_pure nn ⟨rfl,rfl,rfl⟩
 ·have h1 : l.length = m.length := by rw [encI_length,encI_length] at h; simp at h; omega
  ((conv=>whnf);repeat(refine Xg ?_;conv=>whnf))
  refine ALoop.at nnΓ (fun i : Nat => i ≤ l.length ∧ decide (l = m) = decide (l.drop i = m.drop i)) (fun i => ⟨[(0,.il 1 (encI l)),(1,.il 1 (encI m)),(12,.int .i64 l.length),(13,.int .i64 i)],[],0,26⟩) (fun i => l.length - i) 0 [] ⟨by simp,by simp⟩
   (conv_pure ⟨⟨_,rfl,.same _ (.il' (encI_nn _))⟩,⟨_,rfl,.same _ (.il' (encI_nn _))⟩,⟨_,rfl,.int (by rw [encI_length])⟩,⟨_,rfl,.same _ nn⟩,trivial⟩) ?_
  rintro i ⟨hi,hs⟩
  ((conv=>whnf);repeat(refine Xg ?_;conv=>whnf))
  refine bcs_mk (fun hb => ?_) (fun hb => ?_)
  ·have hil : i < l.length := by simpa using hb
   have ep : (encI l)[((i : Nat) : Int).toNat]? = some (.int .i64 l[i]) := by simp [encI_get,List.getElem?_eq_getElem hil]
   have eq : (encI m)[((i : Nat) : Int).toNat]? = some (.int .i64 (m[i])) := by simp [encI_get,List.getElem?_eq_getElem (show i < m.length by omega)]
   rw [List.drop_eq_getElem_cons hil,List.drop_eq_getElem_cons (show i < m.length by omega)] at hs
   generalize l[i] = p at ep hs
   generalize m[i] = q at eq hs
   ((conv=>whnf);repeat(refine Xg ?_;conv=>whnf))
   repeat ((first | refine opt_mk ep ?_ | refine opt_mk eq ?_ | refine ⟨rfl, ?_⟩); ((conv=>whnf);repeat(refine Xg ?_;conv=>whnf)))
   refine bcs_mk (fun h => ?_) (fun h => ?_)
   ·have hne : p ≠ q := by simpa using h
    rw [hs,decide_eq_false (fun e => hne (List.cons.inj e).1)]
    ((conv=>whnf);repeat(refine Xg ?_;conv=>whnf))
    exact fin_pure nn ⟨rfl,rfl,rfl⟩
   ·have hne : p = q := by simpa using h
    subst hne
    ((conv=>whnf);repeat(refine Xg ?_;conv=>whnf))
    exact .mk (i + 1) [] ⟨by omega,by rw [hs]; simp⟩ (conv_pure ⟨⟨_,rfl,.same _ (.il' (encI_nn _))⟩,⟨_,rfl,.same _ (.il' (encI_nn _))⟩,⟨_,rfl,.same _ nn⟩,⟨_,rfl,.w64 (by omega) ⟨by omega,by omega⟩⟩,trivial⟩) (by omega)
  ·have hil : i = l.length := by simp at hb; omega
   rw [hil,List.drop_length,h1,List.drop_length] at hs
   rw [hs]
   ((conv=>whnf);repeat(refine Xg ?_;conv=>whnf))
   exact fin_pure nn ⟨rfl,rfl,rfl⟩
theorem sEqS (l m : List (List UInt8)) (hl : l.length ≤ 4294967296) : PureC Tryz.prog [] 61 [.il 1 (encS l),.il 1 (encS m)] (.bool (decide (l = m))) := by
 refine acalls_go nnΓ Tryz.func61 rfl ?_
 ((conv=>whnf);repeat(refine Xg ?_;conv=>whnf))
 refine bcs_mk (fun h => ?_) (fun h => ?_)
 ·have h1 : l.length ≠ m.length := by rw [encS_length,encS_length] at h; simp at h; omega
  rw [decide_eq_false (fun e => h1 (by rw [e]))]
  ((conv=>whnf);repeat(refine Xg ?_;conv=>whnf))
  exact fin_pure nn ⟨rfl,rfl,rfl⟩
 ·have h1 : l.length = m.length := by rw [encS_length,encS_length] at h; simp at h; omega
  ((conv=>whnf);repeat(refine Xg ?_;conv=>whnf))
  refine ALoop.at nnΓ (fun i : Nat => i ≤ l.length ∧ decide (l = m) = decide (l.drop i = m.drop i)) (fun i => ⟨[(0,.il 1 (encS l)),(1,.il 1 (encS m)),(12,.int .i64 l.length),(13,.int .i64 i)],[],0,26⟩) (fun i => l.length - i) 0 [] ⟨by simp,by simp⟩
   (conv_pure ⟨⟨_,rfl,.same _ (.il' (encS_nn _))⟩,⟨_,rfl,.same _ (.il' (encS_nn _))⟩,⟨_,rfl,.int (by rw [encS_length])⟩,⟨_,rfl,.same _ nn⟩,trivial⟩) ?_
  rintro i ⟨hi,hs⟩
  ((conv=>whnf);repeat(refine Xg ?_;conv=>whnf))
  refine bcs_mk (fun hb => ?_) (fun hb => ?_)
  ·have hil : i < l.length := by simpa using hb
   have ep : (encS l)[((i : Nat) : Int).toNat]? = some (.str l[i]) := by simp [encS_get,List.getElem?_eq_getElem hil]
   have eq : (encS m)[((i : Nat) : Int).toNat]? = some (.str (m[i])) := by simp [encS_get,List.getElem?_eq_getElem (show i < m.length by omega)]
   rw [List.drop_eq_getElem_cons hil,List.drop_eq_getElem_cons (show i < m.length by omega)] at hs
   generalize l[i] = p at ep hs
   generalize m[i] = q at eq hs
   ((conv=>whnf);repeat(refine Xg ?_;conv=>whnf))
   repeat ((first | refine opt_mk ep ?_ | refine opt_mk eq ?_ | refine ⟨rfl, ?_⟩); ((conv=>whnf);repeat(refine Xg ?_;conv=>whnf)))
   refine bcs_mk (fun h => ?_) (fun h => ?_)
   ·have hne : p ≠ q := by simpa using h
    rw [hs,decide_eq_false (fun e => hne (List.cons.inj e).1)]
    ((conv=>whnf);repeat(refine Xg ?_;conv=>whnf))
    exact fin_pure nn ⟨rfl,rfl,rfl⟩
   ·have hne : p = q := by simpa using h
    subst hne
    ((conv=>whnf);repeat(refine Xg ?_;conv=>whnf))
    exact .mk (i + 1) [] ⟨by omega,by rw [hs]; simp⟩ (conv_pure ⟨⟨_,rfl,.same _ (.il' (encS_nn _))⟩,⟨_,rfl,.same _ (.il' (encS_nn _))⟩,⟨_,rfl,.same _ nn⟩,⟨_,rfl,.w64 (by omega) ⟨by omega,by omega⟩⟩,trivial⟩) (by omega)
  ·have hil : i = l.length := by simp at hb; omega
   rw [hil,List.drop_length,h1,List.drop_length] at hs
   rw [hs]
   ((conv=>whnf);repeat(refine Xg ?_;conv=>whnf))
   exact fin_pure nn ⟨rfl,rfl,rfl⟩
set_option maxHeartbeats 8000000
theorem eqg105 : Tryz.prog.eqGuardType Tryz.prog.depth 105 = false := by kernel_rfl
theorem dExact (x y : Nd) (hx : okN x) (hy : okN y) : PureC Tryz.prog [] 39 [.ip (encN x),.ip (encN y)] (.bool (exactN x y)) := by
 have h1 := sEqI x.weights y.weights hx.weights
 have h2 := sEqS x.labels y.labels hx.labels
 have h3 := dEqualFunc x.values y.values hx.values hy.values (fun a ha => (hx.valuesI a ha).1)
 have h4 := dEq0 x.value y.value hx.value
 have hres : exactN x y = ((decide (x.kind = y.kind) && (decide (x.lo = y.lo) && (decide (x.hi = y.hi) && (decide (x.kids.length = y.kids.length) && decide (x.name = y.name))))) && decide (x.weights = y.weights) && decide (x.labels = y.labels) && sameVs x.values y.values && (cmpV x.value y.value == 0)) := rfl
 generalize exactN x y = res at hres ⊢
 generalize decide (x.weights = y.weights) = b1 at h1 hres
 generalize decide (x.labels = y.labels) = b2 at h2 hres
 generalize sameVs x.values y.values = b3 at h3 hres
 generalize (cmpV x.value y.value == 0) = b4 at h4 hres
 have hxn := encN_nn x
 have hyn := encN_nn y
 clear hx hy
 obtain ⟨kind,name,lo,hi',ws,lbs,vals,kids,⟨vk,vn,vs,vks⟩⟩ := x
 obtain ⟨kind2,name2,lo2,hi2,ws2,lbs2,vals2,kids2,⟨vk2,vn2,vs2,vks2⟩⟩ := y
 simp only at h1 h2 h3 h4 hres
 refine acalls_go nnΓ Tryz.func39 rfl ?_
 ((conv=>whnf);repeat(refine Xg ?_;conv=>whnf))
 rw [eqg105]
 ((conv=>whnf);repeat(refine Xg ?_;conv=>whnf))
 have hc : (kind == kind2 && (lo == lo2 && (hi' == hi2 && (((encI kids).length : Int) == ((encI kids2).length : Int) && (name == name2 && true))))) = (decide (kind = kind2) && (decide (lo = lo2) && (decide (hi' = hi2) && (decide (kids.length = kids2.length) && decide (name = name2))))) := by
  rw [encI_length,encI_length,Bool.eq_iff_iff]
  simp
  omega
 rw [hc]
 generalize (decide (kind = kind2) && (decide (lo = lo2) && (decide (hi' = hi2) && (decide (kids.length = kids2.length) && decide (name = name2))))) = b0 at hres ⊢
 clear hc
 cases b0 with
 | false =>
  ((conv=>whnf);repeat(refine Xg ?_;conv=>whnf))
  exact fin_pure nn ⟨by rw [hres]; simp,rfl,rfl⟩
 | true =>
 ((conv=>whnf);repeat(refine Xg ?_;conv=>whnf))
 refine h1.go ?_
 cases b1 with
 | false =>
  ((conv=>whnf);repeat(refine Xg ?_;conv=>whnf))
  exact fin_pure nn ⟨by rw [hres]; simp,rfl,rfl⟩
 | true =>
 ((conv=>whnf);repeat(refine Xg ?_;conv=>whnf))
 refine h2.go ?_ (.cons (.il' (encS_nn _)) (.cons (.il' (encS_nn _)) .nil))
 cases b2 with
 | false =>
  ((conv=>whnf);repeat(refine Xg ?_;conv=>whnf))
  exact fin_pure nn ⟨by rw [hres]; simp,rfl,rfl⟩
 | true =>
 ((conv=>whnf);repeat(refine Xg ?_;conv=>whnf))
 refine h3.go ?_
 cases b3 with
 | false =>
  ((conv=>whnf);repeat(refine Xg ?_;conv=>whnf))
  exact fin_pure nn ⟨by rw [hres]; simp,rfl,rfl⟩
 | true =>
 ((conv=>whnf);repeat(refine Xg ?_;conv=>whnf))
 refine h4.go ?_
 ((conv=>whnf);repeat(refine Xg ?_;conv=>whnf))
 exact fin_pure nn ⟨by rw [hres]; simp,rfl,rfl⟩
set_option maxHeartbeats 8000000
set_option maxHeartbeats 8000000
theorem treeIn_val {A : List Nd} (h : TreeIn A) : ValIn A := ⟨h.ok,h.val,h.vals,fun x hx => by have := h.vlen x hx; omega,fun x hx => by have := h.klen x hx; omega⟩
theorem dUsable (A : List Nd) (h : TreeIn A) : PureC Tryz.prog [] 33 [.agg [.il 12 (encNs A)]] (.bool (usableT A)) := by
 have hV := tValid A (treeIn_val h)
 have hu : usableT A = (decide (0 < A.length) && decide (validT A = 0)) := rfl
 generalize usableT A = u at hu ⊢
 generalize validT A = vt at hV hu
 refine acalls_go nnΓ Tryz.func33 rfl ?_
 ((conv=>whnf);repeat(refine Xg ?_;conv=>whnf))
 rw [encNs_length]
 by_cases h0 : 0 < A.length
 ·rw [decide_eq_true h0] at hu
  rw [show decide ((A.length : Int) > 0) = true by simp; omega]
  ((conv=>whnf);repeat(refine Xg ?_;conv=>whnf))
  refine hV.go ?_ (.cons (.agg' (.cons (.il' (encNs_nn _)) .nil)) .nil)
  ((conv=>whnf);repeat(refine Xg ?_;conv=>whnf))
  exact fin_pure nn ⟨by rw [hu,Bool.true_and,show (vt == 0) = decide (vt = 0) by rw [Bool.eq_iff_iff]; simp],rfl,rfl⟩
 ·rw [decide_eq_false h0] at hu
  rw [show decide ((A.length : Int) > 0) = false by rw [decide_eq_false_iff_not]; omega]
  ((conv=>whnf);repeat(refine Xg ?_;conv=>whnf))
  exact fin_pure nn ⟨by rw [hu]; simp,rfl,rfl⟩
theorem map_take_snoc {α β : Type} (f : α → β) {l : List α} {k : Nat} {a : α} (h : l[k]? = some a) : (l.take (k + 1)).map f = (l.take k).map f ++ [f a] := by
 obtain ⟨h1,h2⟩ := List.getElem?_eq_some_iff.1 h
 rw [List.take_succ_eq_append_getElem h1,List.map_append,h2]; rfl
theorem encBs_snoc (l : List Bool) (b : Bool) : encBs (l ++ [b]) = encBs l ++ [.bool b] := by simp [encBs]
theorem encI_snoc (l : List Int) (b : Int) : encI (l ++ [b]) = encI l ++ [.int .i64 b] := by simp [encI]
theorem dChoices (x y : Nd) (hx : OptN x) (hy : OptN y) (hll : ∀ s ∈ x.labels,s.length ≤ 4294967296) (hbl : y.labels.length ≤ 1000) (hxv : x.values.length ≤ 1000000) (hsy : Srt y.values) (hyv : ∀ v ∈ y.values,okV v) (hyl : y.values.length ≤ 1000000) :
  PureC Tryz.prog gz 35 [.ip (encN x),.ip (encN y)] (.tup [.il 1 (encI ((chN x y).map (·.1))),.il 1 (encBs ((chN x y).map (·.2)))]) := by
 have hO := fun (k : Nat) (h : k ≤ 2000) => dOption x y k ⟨by omega,by omega⟩ hx hy hll hbl
 have hN := fun v => dNearest y.values v (by omega) hyv hsy
 have hch : chN x y = if x.kind = 2 ∧ y.kind = 2 then (List.range x.kids.length).map (fun k : Nat => optR x y k) else if x.kind = 4 ∧ y.kind = 4 then x.values.map (nearI y.values) else [] := rfl
 have hkl := hx.klen
 have hxn := encN_nn x
 have hyn := encN_nn y
 have fin : ∀ (ch : List (Int × Bool)) (mem : Mem) (nx : Nat) (id1 id2 n : Nat),chN x y = ch → ch.length = n → lk mem id1 = some (.row 3 1 (encI (ch.map (·.1)))) → lk mem id2 = some (.row 4 1 (encBs (ch.map (·.2)))) →
   Fini 0 (fun r m n => r = .tup [.il 1 (encI ((chN x y).map (·.1))),.il 1 (encBs ((chN x y).map (·.2)))] ∧ m = [] ∧ n = 0) (.tup [.sl id1 0 n,.sl id2 0 n]) mem nx := by
  rintro ch mem nx id1 id2 n rfl rfl h1 h2
  exact fin_cv (.tup' (.cons (.fz' h1 rfl (by rw [encI_length]; simp) (by rw [List.drop_zero]; exact List.take_of_length_le (by rw [encI_length]; simp)) (encI_nn _)) (.cons (.fz' h2 rfl (by rw [encBs_length]; simp) (by rw [List.drop_zero]; exact List.take_of_length_le (by rw [encBs_length]; simp)) (encBs_nn _)) .nil))) ⟨rfl,rfl,rfl⟩
 have finN : ∀ (mem : Mem) (nx : Nat),chN x y = [] → Fini 0 (fun r m n => r = .tup [.il 1 (encI ((chN x y).map (·.1))),.il 1 (encBs ((chN x y).map (·.2)))] ∧ m = [] ∧ n = 0) (.tup [.nsl,.nsl]) mem nx := by
  intro mem nx h
  rw [h]
  exact fin_cv (.tup' (.cons (.nil 1) (.cons (.nil 1) .nil))) ⟨rfl,rfl,rfl⟩
 generalize hchv : chN x y = ch at hch fin finN ⊢
 clear hchv
 generalize optR x y = opf at hO hch
 clear hx hy hll hsy hyv
 obtain ⟨kind,name,lo,hi',ws,lbs,vals,kids,⟨vk,vn,vs,vks⟩⟩ := x
 obtain ⟨kind2,name2,lo2,hi2,ws2,lbs2,vals2,kids2,⟨vk2,vn2,vs2,vks2⟩⟩ := y
 simp only at hO hN hch hkl hxv hyl
 refine acalls_go nngz Tryz.func35 rfl ?_
 ((conv=>whnf);repeat(refine Xg ?_;conv=>whnf))
 by_cases k2 : kind = 2
 ·subst k2
  ((conv=>whnf);repeat(refine Xg ?_;conv=>whnf))
  by_cases k2' : kind2 = 2
  ·subst k2'
   rw [if_pos ⟨rfl,rfl⟩] at hch
   ((conv=>whnf);repeat(refine Xg ?_;conv=>whnf))
   refine ALoop.ph 3 1 ?_
   refine ALoop.ph 4 1 ?_
   refine ALoop.at nngz (fun k : Nat => k ≤ kids.length)
    (fun k => ⟨[(0,.ip (encN ⟨2,name,lo,hi',ws,lbs,vals,kids,.mk vk vn vs vks⟩)),(1,.ip (encN ⟨2,name2,lo2,hi2,ws2,lbs2,vals2,kids2,.mk vk2 vn2 vs2 vks2⟩)),(6,.sl 0 0 k),(7,.sl 1 0 k),(32,.int .i64 kids.length),(33,.int .i64 k)],
     [(0,.row 3 1 (encI ((ch.take k).map (·.1)))),(1,.row 4 1 (encBs ((ch.take k).map (·.2))))],2,98⟩) (fun k => kids.length - k) 0 [(0,0),(1,1)] (by simp)
    (conv_mk _ rfl ⟨⟨0,_,rfl,rfl,.same .nil⟩,⟨1,_,rfl,rfl,.same .nil⟩,trivial⟩ ⟨⟨_,rfl,.same _ (.ip' hxn)⟩,⟨_,rfl,.same _ (.ip' hyn)⟩,⟨_,rfl,.nslk 0 0 _ rfl rfl⟩,⟨_,rfl,.nslk 1 1 _ rfl rfl⟩,⟨_,rfl,.int (by rw [encI_length])⟩,⟨_,rfl,.same _ nn⟩,trivial⟩) ?_
   intro k hk
   ((conv=>whnf);repeat(refine Xg ?_;conv=>whnf))
   refine bcs_mk (fun hb => ?_) (fun hb => ?_)
   ·have hlt : k < kids.length := by simpa using hb
    have hO := hO k (by omega)
    have hck : ch[k]? = some (opf k) := by rw [hch,List.getElem?_map,List.getElem?_range hlt]; rfl
    have hcl : ch.length = kids.length := by rw [hch]; simp
    have e1 := map_take_snoc (·.1) hck
    have e2 := map_take_snoc (·.2) hck
    have hl1 : ((ch.take k).map (·.1)).length = k := by simp; omega
    have hl2 : ((ch.take k).map (·.2)).length = k := by simp; omega
    generalize opf k = c at hO hck e1 e2
    obtain ⟨cn,cb⟩ := c
    ((conv=>whnf);repeat(refine Xg ?_;conv=>whnf))
    refine hO.use nngz (.cons hxn (.cons hyn (.cons nn .nil))) nn ?_
    ((conv=>whnf);repeat(refine Xg ?_;conv=>whnf))
    repeat (refine ⟨rfl, ?_⟩; ((conv=>whnf);repeat(refine Xg ?_;conv=>whnf)))
    refine grd_mk (app_ok rfl rfl (by rw [encI_length,hl1]) (by simp; omega)) ?_
    ((conv=>whnf);repeat(refine Xg ?_;conv=>whnf))
    refine grd_mk (app_ok rfl rfl (by rw [encBs_length,hl2]) (by simp; omega)) ?_
    ((conv=>whnf);repeat(refine Xg ?_;conv=>whnf))
    exact .mk (k + 1) [(16,0),(18,1)] (by omega)
     (conv_mk _ rfl ⟨⟨16,_,rfl,rfl,.eq (encI_nn _) (by rw [e1,encI_snoc]; rfl)⟩,⟨18,_,rfl,rfl,.eq (encBs_nn _) (by rw [e2,encBs_snoc]; rfl)⟩,trivial⟩ ⟨⟨_,rfl,.same _ (.ip' hxn)⟩,⟨_,rfl,.same _ (.ip' hyn)⟩,⟨_,rfl,.slE rfl (by simp)⟩,⟨_,rfl,.slE rfl (by simp)⟩,⟨_,rfl,.same _ nn⟩,⟨_,rfl,.w64 (by omega) ⟨by omega,by omega⟩⟩,trivial⟩) (by omega)
   ·have hlt : k = kids.length := by simp at hb; omega
    have hcl : ch.length = kids.length := by rw [hch]; simp
    rw [hlt,List.take_of_length_le (by omega)]
    ((conv=>whnf);repeat(refine Xg ?_;conv=>whnf))
    exact fin ch _ _ 0 1 _ rfl hcl rfl rfl
  ·rw [if_neg (fun h => k2' h.2),if_neg (fun h => absurd h.1 (by decide))] at hch
   rw [show (kind2 == 2) = false by simpa using k2']
   ((conv=>whnf);repeat(refine Xg ?_;conv=>whnf))
   exact finN _ _ hch
 ·rw [if_neg (fun h => k2 h.1)] at hch
  rw [show (kind == 2) = false by simpa using k2]
  ((conv=>whnf);repeat(refine Xg ?_;conv=>whnf))
  by_cases k4 : kind = 4
  ·subst k4
   ((conv=>whnf);repeat(refine Xg ?_;conv=>whnf))
   by_cases k4' : kind2 = 4
   ·subst k4'
    rw [if_pos ⟨rfl,rfl⟩] at hch
    ((conv=>whnf);repeat(refine Xg ?_;conv=>whnf))
    refine ALoop.ph 3 1 ?_
    refine ALoop.ph 4 1 ?_
    refine ALoop.at nngz (fun k : Nat => k ≤ vals.length)
     (fun k => ⟨[(1,.ip (encN ⟨4,name2,lo2,hi2,ws2,lbs2,vals2,kids2,.mk vk2 vn2 vs2 vks2⟩)),(6,.sl 0 0 k),(7,.sl 1 0 k),(72,.il 4 (encVs vals)),(73,.int .i64 vals.length),(74,.int .i64 k)],
      [(0,.row 3 1 (encI ((ch.take k).map (·.1)))),(1,.row 4 1 (encBs ((ch.take k).map (·.2))))],2,98⟩) (fun k => vals.length - k) 0 [(0,0),(1,1)] (by simp)
     (conv_mk _ rfl ⟨⟨0,_,rfl,rfl,.same .nil⟩,⟨1,_,rfl,rfl,.same .nil⟩,trivial⟩ ⟨⟨_,rfl,.same _ (.ip' hyn)⟩,⟨_,rfl,.nslk 0 0 _ rfl rfl⟩,⟨_,rfl,.nslk 1 1 _ rfl rfl⟩,⟨_,rfl,.same _ (.il' (encVs_nn _))⟩,⟨_,rfl,.int (by rw [encVs_length])⟩,⟨_,rfl,.same _ nn⟩,trivial⟩) ?_
    intro k hk
    ((conv=>whnf);repeat(refine Xg ?_;conv=>whnf))
    refine bcs_mk (fun hb => ?_) (fun hb => ?_)
    ·have hlt : k < vals.length := by simpa using hb
     obtain ⟨v1,v2,v3,v4,vm,vg,-,ev⟩ := enc_cases (l := vals) (k := k) hlt
     have hN := hN (.mk v1 v2 v3 v4)
     have hck : ch[k]? = some (nearI vals2 (.mk v1 v2 v3 v4)) := by rw [hch,List.getElem?_map,vg]; rfl
     have hcl : ch.length = vals.length := by rw [hch]; simp
     have e1 := map_take_snoc (·.1) hck
     have e2 := map_take_snoc (·.2) hck
     have hl1 : ((ch.take k).map (·.1)).length = k := by simp; omega
     have hl2 : ((ch.take k).map (·.2)).length = k := by simp; omega
     unfold nearI at e1 e2
     generalize nearV vals2 (.mk v1 v2 v3 v4) = c at hN e1 e2
     obtain ⟨cn,cb⟩ := c
     simp only at e1 e2 hN
     ((conv=>whnf);repeat(refine Xg ?_;conv=>whnf))
     refine opt_mk ev ?_
     ((conv=>whnf);repeat(refine Xg ?_;conv=>whnf))
     repeat (refine ⟨rfl, ?_⟩; ((conv=>whnf);repeat(refine Xg ?_;conv=>whnf)))
     refine hN.goG ?_
     ((conv=>whnf);repeat(refine Xg ?_;conv=>whnf))
     repeat (refine ⟨rfl, ?_⟩; ((conv=>whnf);repeat(refine Xg ?_;conv=>whnf)))
     refine grd_mk (app_ok rfl rfl (by rw [encI_length,hl1]) (by simp; omega)) ?_
     ((conv=>whnf);repeat(refine Xg ?_;conv=>whnf))
     refine grd_mk (app_ok rfl rfl (by rw [encBs_length,hl2]) (by simp; omega)) ?_
     ((conv=>whnf);repeat(refine Xg ?_;conv=>whnf))
     exact .mk (k + 1) [(15,0),(17,1)] (by omega)
      (conv_mk _ rfl ⟨⟨15,_,rfl,rfl,.eq (encI_nn _) (by rw [e1,encI_snoc]; rfl)⟩,⟨17,_,rfl,rfl,.eq (encBs_nn _) (by rw [e2,encBs_snoc]; rfl)⟩,trivial⟩ ⟨⟨_,rfl,.same _ (.ip' hyn)⟩,⟨_,rfl,.slE rfl (by simp)⟩,⟨_,rfl,.slE rfl (by simp)⟩,⟨_,rfl,.same _ (.il' (encVs_nn _))⟩,⟨_,rfl,.same _ nn⟩,⟨_,rfl,.w64 (by omega) ⟨by omega,by omega⟩⟩,trivial⟩) (by omega)
    ·have hlt : k = vals.length := by simp at hb; omega
     have hcl : ch.length = vals.length := by rw [hch]; simp
     rw [hlt,List.take_of_length_le (by omega)]
     ((conv=>whnf);repeat(refine Xg ?_;conv=>whnf))
     exact fin ch _ _ 0 1 _ rfl hcl rfl rfl
   ·rw [if_neg (fun h => k4' h.2)] at hch
    rw [show (kind2 == 4) = false by simpa using k4']
    ((conv=>whnf);repeat(refine Xg ?_;conv=>whnf))
    exact finN _ _ hch
  ·rw [if_neg (fun h => k4 h.1)] at hch
   rw [show (kind == 4) = false by simpa using k4]
   ((conv=>whnf);repeat(refine Xg ?_;conv=>whnf))
   exact finN _ _ hch
set_option maxHeartbeats 16000000
def seenE (L : List Mt) : List (AV × AV) := L.map fun m => (.agg [.int .i64 m.old,.int .i64 m.now],.bool true)
theorem seenE_snoc (L : List Mt) (m : Mt) : seenE (L ++ [m]) = seenE L ++ [(.agg [.int .i64 m.old,.int .i64 m.now],.bool true)] := by simp [seenE]
theorem eqh75 : Tryz.prog.stoodInHeld 75 = false := by kernel_rfl
theorem key75 (a b c d : Nat) : aKeyEq Tryz.prog 75 (.agg [.int .i64 a,.int .i64 b]) (.agg [.int .i64 c,.int .i64 d]) = some (decide (c = a) && decide (d = b)) := by
 have e : aEqS Tryz.prog 75 [.int .i64 a,.int .i64 b] [.int .i64 c,.int .i64 d] = some (decide (c = a) && decide (d = b)) := by
  unfold aEqS
  rw [eqh75]
  conv => lhs; whnf
  rw [Option.some.injEq,Bool.eq_iff_iff]
  simp
  omega
 exact e
theorem find_no {o n : Nat} : ∀ (L : List Mt) (i : Nat),isIn L o n = false → aFindM Tryz.prog 75 (.agg [.int .i64 o,.int .i64 n]) (seenE L) i = some none
 | [],i,_ => rfl
 | m :: r,i,h => by
  simp only [isIn,List.any_cons,Bool.or_eq_false_iff] at h
  simp only [seenE,List.map_cons,aFindM,key75,h.1]
  exact find_no r (i + 1) h.2
theorem find_yes {o n : Nat} : ∀ (L : List Mt) (i : Nat),isIn L o n = true → ∃ j,aFindM Tryz.prog 75 (.agg [.int .i64 o,.int .i64 n]) (seenE L) i = some (some (j,.bool true))
 | [],i,h => by simp [isIn] at h
 | m :: r,i,h => by
  simp only [isIn,List.any_cons] at h
  simp only [seenE,List.map_cons,aFindM,key75]
  cases hd : (decide (m.old = o) && decide (m.now = n)) with
  | true => exact ⟨i,rfl⟩
  | false =>
   rw [hd,Bool.false_or] at h
   exact find_yes r (i + 1) h
theorem look75 {mem : Mem} {id o n : Nat} {L : List Mt} (hm : lk mem id = some (.mapb (seenE L))) : aLookup Tryz.prog mem 72 (.mp id) (.agg [.int .i64 o,.int .i64 n]) false = some (.bool (isIn L o n)) := by
 have key : (match aFindM Tryz.prog 75 (.agg [.int .i64 o,.int .i64 n]) (seenE L) 0 with
     | some (some (_,v)) => some v
     | some none => some (AV.bool false)
     | none => none) = some (.bool (isIn L o n)) := by
  cases h : isIn L o n with
  | false => rw [find_no L 0 h]
  | true => obtain ⟨j,hj⟩ := find_yes L 0 h; rw [hj]
 have u : Tryz.prog.underlying 72 = some (.map 75 4) := rfl
 have ak : aKey Tryz.prog 75 (.agg [.int .i64 o,.int .i64 n]) = true := rfl
 have z : zeroAV Tryz.prog 4 = some (.bool false) := rfl
 unfold aLookup
 simp only [u,ak,hm,z]
 exact key
def dM (A B : List Nd) (L : List Mt) (rid : Nat) (rest : Mem) : Mem :=
 (0,.row 72 1 [.mp 5]) :: (1,.row 25 1 [.agg [.il 12 (encNs A)]]) :: (2,.row 25 1 [.agg [.il 12 (encNs B)]]) :: (3,.row 44 1 [.sl rid 0 L.length]) ::
 (4,.row 73 1 [.fn (.func 34) [] [.ptr 0 0 0,.ptr 1 0 0,.ptr 2 0 0,.ptr 3 0 0,.ptr 4 0 0]]) :: (5,.mapb (seenE L)) :: (rid,.row 56 4 (encMs L)) :: rest
theorem seen_cv {mem : Mem} {σ : List (Nat × Nat)} (L : List Mt) : CvP mem σ (seenE L) (seenE L) := ⟨rfl,fun i e e' h1 h2 => by
 rw [h1] at h2
 cases h2
 unfold seenE at h1
 rw [List.getElem?_map] at h1
 cases hm : L[i]? with
 | none => rw [hm] at h1; cases h1
 | some m =>
  rw [hm] at h1
  cases h1
  exact ⟨.same _ nn,.same _ nn⟩⟩
theorem tree_cv {mem : Mem} {σ : List (Nat × Nat)} (A : List Nd) : CvR mem σ [.agg [.il 12 (encNs A)]] [.agg [.il 12 (encNs A)]] := .same (.cons (.agg' (.cons (.il' (encNs_nn _)) .nil)) .nil)
theorem dM_conv {mem : Mem} {σ : List (Nat × Nat)} {A B : List Nd} {L : List Mt} {len rid rid' : Nat} {xs : List AV} {es : List (AV × AV)} {rest : Mem} (hl : len = L.length) (s0 : lk σ 0 = some 0) (s1 : lk σ 1 = some 1) (s2 : lk σ 2 = some 2) (s3 : lk σ 3 = some 3) (s4 : lk σ 4 = some 4) (s5 : lk σ 5 = some 5) (sr : lk σ rid = some rid')
  (m0 : lk mem 0 = some (.row 72 1 [.mp 5])) (m1 : lk mem 1 = some (.row 25 1 [.agg [.il 12 (encNs A)]])) (m2 : lk mem 2 = some (.row 25 1 [.agg [.il 12 (encNs B)]])) (m3 : lk mem 3 = some (.row 44 1 [.sl rid 0 len]))
  (m4 : lk mem 4 = some (.row 73 1 [.fn (.func 34) [] [.ptr 0 0 0,.ptr 1 0 0,.ptr 2 0 0,.ptr 3 0 0,.ptr 4 0 0]])) (m5 : lk mem 5 = some (.mapb es)) (he : es = seenE L) (mr : lk mem rid = some (.row 56 4 xs)) (hx : CvR mem σ xs (encMs L))
  (hr : MemConv mem σ rest) : MemConv mem σ (dM A B L rid' rest) :=
 ⟨⟨0,_,s0,m0,.cons (.one rfl rfl (.mp 5 5 s5)) .nil⟩,⟨1,_,s1,m1,tree_cv A⟩,⟨2,_,s2,m2,tree_cv B⟩,⟨3,_,s3,m3,.cons (.one rfl rfl (.slE sr hl)) .nil⟩,
  ⟨4,_,s4,m4,.cons (.one rfl rfl (.fn _ _ _ _ _ rfl rfl (by simp) (CvL.cons (.ptr 0 0 0 0 s0) (.cons (.ptr 1 1 0 0 s1) (.cons (.ptr 2 2 0 0 s2) (.cons (.ptr 3 3 0 0 s3) (.cons (.ptr 4 4 0 0 s4) .nil))))).2)) .nil⟩,
  ⟨5,_,s5,m5,by rw [he]; exact seen_cv L⟩,⟨rid,_,sr,mr,hx⟩,hr⟩
def vQ (A B : List Nd) (L : List Mt) : AV → Mem → Nat → Prop := fun r m k => r = .tup [] ∧ m = dM A B L 7 [] ∧ k = 8
def VisOK (A B : List Nd) (f : Nat) : Prop := ∀ (o n : Nat) (L : List Mt),o < f → o < A.length → n < B.length → InvM A.length B.length L →
 ACalls Tryz.prog gz 34 [.agg [.int .i64 o,.int .i64 n],.ptr 0 0 0,.ptr 1 0 0,.ptr 2 0 0,.ptr 3 0 0,.ptr 4 0 0] (dM A B L 6 []) 7 (vQ A B (visF A B f o n L))
theorem zip_get {α β : Type} {l : List α} {m : List β} {k : Nat} {a : α} {b : β} (h1 : l[k]? = some a) (h2 : m[k]? = some b) : (l.zip m)[k]? = some (a,b) := by
 rw [List.getElem?_zip_eq_some]
 exact ⟨h1,h2⟩
theorem fold_next {A B : List Nd} {f : Nat} {ps : List (Nat × Nat)} {k q w : Nat} {L1 Lk : List Mt} (hpk : ps[k]? = some (q,w)) (hLk : Lk = (ps.take k).foldl (fun L p => visF A B f p.1 p.2 L) L1) : visF A B f q w Lk = (ps.take (k + 1)).foldl (fun L p => visF A B f p.1 p.2 L) L1 := by
 obtain ⟨h1,h2⟩ := List.getElem?_eq_some_iff.1 hpk
 rw [List.take_succ_eq_append_getElem h1,List.foldl_append,← hLk,h2]; rfl
theorem vUse {A B : List Nd} {f : Nat} (ih : VisOK A B f) {o n : Nat} {L : List Mt} (h1 : o < f) (h2 : o < A.length) (h3 : n < B.length) (h4 : InvM A.length B.length L) {mem : Mem} {nx : Nat} {K : AV → Mem → Nat → Prop}
  (hp : pickM [0,1,2,3,4,5,7] mem = dM A B L 7 []) (hc : ∀ L' : List Mt,(nodM (dM A B L' nx []) && (nod2 [(0,0),(1,1),(2,2),(3,3),(4,4),(5,5),(7,nx)] && (Nat.ble nx (nx + 1) && (keysOr [0,1,2,3,4,5,7] nx (dM A B L' nx []) && tauOK [(0,0),(1,1),(2,2),(3,3),(4,4),(5,5),(7,6)] 7 nx (nx + 1) [(0,0),(1,1),(2,2),(3,3),(4,4),(5,5),(7,nx)])))) = true)
  (hk : K (.tup []) (dM A B (visF A B f o n L) nx [] ++ dropM [0,1,2,3,4,5,7] mem) (nx + 1)) :
  ACalls Tryz.prog gz 34 [.agg [.int .i64 o,.int .i64 n],.ptr 0 0 0,.ptr 1 0 0,.ptr 2 0 0,.ptr 3 0 0,.ptr 4 0 0] mem nx K := by
 refine ACalls.useN nngz [(0,0),(1,1),(2,2),(3,3),(4,4),(5,5),(7,6)] (ih o n L h1 h2 h3 h4) hp (.cons (.same _ nn) (.cons (.ptr 0 0 0 0 rfl) (.cons (.ptr 1 1 0 0 rfl) (.cons (.ptr 2 2 0 0 rfl) (.cons (.ptr 3 3 0 0 rfl) (.cons (.ptr 4 4 0 0 rfl) .nil))))))
  (dM_conv (rid := 7) rfl rfl rfl rfl rfl rfl rfl rfl rfl rfl rfl rfl rfl rfl rfl rfl (.same (encMs_nn _)) trivial) (by rfl) ?_
 rintro r m k ⟨rfl,rfl,rfl⟩
 exact ⟨[(0,0),(1,1),(2,2),(3,3),(4,4),(5,5),(7,nx)],.tup [],dM A B (visF A B f o n L) nx [],nx + 1,.same _ nn,dM_conv (rid := 7) rfl rfl rfl rfl rfl rfl rfl rfl rfl rfl rfl rfl rfl rfl rfl rfl (.same (encMs_nn _)) trivial,hc _,hk⟩
theorem vUseG {A B : List Nd} {f : Nat} (ih : VisOK A B f) {o n : Nat} {L : List Mt} (h1 : o < f) (h2 : o < A.length) (h3 : n < B.length) (h4 : InvM A.length B.length L) {mem m1 : Mem} {nx : Nat} (rid : Nat) {K : AV → Mem → Nat → Prop}
  (hp : pickM [0,1,2,3,4,5,rid] mem = m1) (hM : MemConv m1 [(0,0),(1,1),(2,2),(3,3),(4,4),(5,5),(rid,6)] (dM A B L 6 [])) (hs : lk [(0,0),(1,1),(2,2),(3,3),(4,4),(5,5),(rid,6)] 4 = some 4)
  (hc0 : (nodM (dM A B L 6 []) && (nod2 [(0,0),(1,1),(2,2),(3,3),(4,4),(5,5),(rid,6)] && valsLt 7 [(0,0),(1,1),(2,2),(3,3),(4,4),(5,5),(rid,6)])) = true)
  (hc : ∀ L' : List Mt,(nodM (dM A B L' nx []) && (nod2 [(0,0),(1,1),(2,2),(3,3),(4,4),(5,5),(7,nx)] && (Nat.ble nx (nx + 1) && (keysOr [0,1,2,3,4,5,rid] nx (dM A B L' nx []) && tauOK [(0,0),(1,1),(2,2),(3,3),(4,4),(5,5),(rid,6)] 7 nx (nx + 1) [(0,0),(1,1),(2,2),(3,3),(4,4),(5,5),(7,nx)])))) = true)
  (hk : K (.tup []) (dM A B (visF A B f o n L) nx [] ++ dropM [0,1,2,3,4,5,rid] mem) (nx + 1)) :
  ACalls Tryz.prog gz 34 [.agg [.int .i64 o,.int .i64 n],.ptr 0 0 0,.ptr 1 0 0,.ptr 2 0 0,.ptr 3 0 0,.ptr 4 0 0] mem nx K := by
 refine ACalls.useN nngz [(0,0),(1,1),(2,2),(3,3),(4,4),(5,5),(rid,6)] (ih o n L h1 h2 h3 h4) hp (.cons (.same _ nn) (.cons (.ptr 0 0 0 0 rfl) (.cons (.ptr 1 1 0 0 rfl) (.cons (.ptr 2 2 0 0 rfl) (.cons (.ptr 3 3 0 0 rfl) (.cons (.ptr 4 4 0 0 rfl) .nil))))))
  hM hc0 ?_
 rintro r m k ⟨rfl,rfl,rfl⟩
 exact ⟨[(0,0),(1,1),(2,2),(3,3),(4,4),(5,5),(7,nx)],.tup [],dM A B (visF A B f o n L) nx [],nx + 1,.same _ nn,dM_conv (rid := 7) rfl rfl rfl rfl rfl rfl rfl rfl rfl rfl rfl rfl rfl rfl rfl rfl (.same (encMs_nn _)) trivial,hc _,hk⟩
theorem dVisit {A B : List Nd} (hA : TreeIn A) (hB : TreeIn B) (vA : validT A = 0) (vB : validT B = 0) (f : Nat) (ih : VisOK A B f) : VisOK A B (f + 1) := by
 intro o n L hof ho hn hI
 have hx := List.getElem?_eq_getElem ho
 have hy := List.getElem?_eq_getElem hn
 have hp := prs_in hA hB vA vB hx hy
 have gx := goodT hA vA hx
 have gy := goodT hB vB hy
 have hxm := List.mem_of_getElem? hx
 have hym := List.mem_of_getElem? hy
 have ex : (encNs A)[((o : Nat) : Int).toNat]? = some (encN A[o]) := by simp [encNs_get,hx]
 have ey : (encNs B)[((n : Nat) : Int).toNat]? = some (encN B[n]) := by simp [encNs_get,hy]
 have hCh := dChoices A[o] B[n] gx.opt gy.opt (fun s hs => by have := hA.lab _ hxm s hs; omega) (hB.llen _ hym) (by have := hA.vlen _ hxm; omega) gy.srt gy.val (by have := hB.vlen _ hym; omega)
 have hlk := fun (mem : Mem) (id : Nat) (hm : lk mem id = some (.mapb (seenE L))) => look75 (o := o) (n := n) hm
 have hLl := inv_len hA hB hI
 have hvis : visF A B (f + 1) o n L = if isIn L o n = true then L else (prsN A[o] B[n]).foldl (fun L p => visF A B f p.1 p.2 L) (L ++ [mtN A[o] B[n] o n]) := by
  conv => lhs; unfold visF
  rw [nodeAt_eq hx,nodeAt_eq hy]
 generalize visF A B (f + 1) o n L = res at hvis ⊢
 obtain ⟨x,hxe⟩ : ∃ x,x = A[o] := ⟨_,rfl⟩
 obtain ⟨y,hye⟩ : ∃ y,y = B[n] := ⟨_,rfl⟩
 rw [← hxe] at ex hp gx hCh hvis hx
 rw [← hye] at ey hp gy hCh hvis hy
 have hxn := encN_nn x
 have hyn := encN_nn y
 have hln := @chN_len x y
 have hmt : mtN x y o n = ⟨o,n,(chN x y).map (·.1),(chN x y).map (·.2)⟩ := rfl
 have hpr : prsN x y = if x.kind ≠ y.kind then [] else if x.kind = 2 then (x.kids.zip (chN x y)).map (fun p => (p.1.toNat,kidAt y p.2.1)) else if x.kind = 3 then (x.kids.zip y.kids).map (fun p => (p.1.toNat,p.2.toNat))
  else if x.kind = 4 then (kidAt x 0,kidAt y 0) :: ((x.kids.drop 1).zip (chN x y)).map (fun p => (p.1.toNat,kidAt y (p.2.1 + 1))) else [] := rfl
 have h2r := fun (a : x.kind = 2 ∧ y.kind = 2) (k : Nat) (hk : k < x.kids.length) => chN_get2 a hk
 have h2in := fun (a : x.kind = 2) (b : y.kind = 2) (k : Nat) (hk : k < x.kids.length) => opt_range (k := k) gx.opt gy.opt a b hk
 have h4r := fun (a : x.kind = 4 ∧ y.kind = 4) (k : Nat) (v : Val) (hv : x.values[k]? = some v) => chN_get4 a hv
 have hvy := fun (e : y.kind = 4) => bind_vals hB.ok vB hy e
 generalize chN x y = ch at h4r hCh hln hmt hpr h2r
 generalize prsN x y = ps at hp hvis hpr
 clear hx hy hxm hym hxe hye
 refine acalls_go nngz Tryz.func34 rfl ?_
 ((conv=>whnf);repeat(refine Xg ?_;conv=>whnf))
 refine opt_mk (hlk _ _ rfl) ?_
 cases hin : isIn L o n with
 | true =>
  rw [if_pos hin] at hvis
  rw [hvis]
  ((conv=>whnf);repeat(refine Xg ?_;conv=>whnf))
  exact fin_mk (n' := 8) (m' := dM A B L 7 []) [(0,0),(1,1),(2,2),(3,3),(4,4),(5,5),(6,7)] rfl (dM_conv (rid := 6) rfl rfl rfl rfl rfl rfl rfl rfl rfl rfl rfl rfl rfl rfl rfl rfl (.same (encMs_nn _)) trivial) (.same _ nn) ⟨rfl,rfl,rfl⟩
 | false =>
  rw [if_neg (by rw [hin]; simp)] at hvis
  ((conv=>whnf);repeat(refine Xg ?_;conv=>whnf))
  refine opt_mk (find_no L 0 hin) ?_
  ((conv=>whnf);repeat(refine Xg ?_;conv=>whnf))
  refine appK_iff.2 ?_
  ((conv=>whnf);repeat(refine Xg ?_;conv=>whnf))
  repeat ((first | refine opt_mk ex ?_ | refine opt_mk ey ?_ | refine ⟨rfl, ?_⟩); ((conv=>whnf);repeat(refine Xg ?_;conv=>whnf)))
  refine hCh.use nngz (.cons (.ip' hxn) (.cons (.ip' hyn) .nil)) (.tup' (.cons (.il' (encI_nn _)) (.cons (.il' (encBs_nn _)) .nil))) ?_
  ((conv=>whnf);repeat(refine Xg ?_;conv=>whnf))
  refine grd_mk (app_ok rfl rfl (by rw [encMs_length]) (by simp; omega)) ?_
  ((conv=>whnf);repeat(refine Xg ?_;conv=>whnf))
  repeat (refine ⟨rfl, ?_⟩; ((conv=>whnf);repeat(refine Xg ?_;conv=>whnf)))
  rw [hmt] at hvis
  have hL1 : InvM A.length B.length (L ++ [⟨o,n,ch.map (·.1),ch.map (·.2)⟩]) := inv_snoc hI ho hn hin
  obtain ⟨L1,hL1e⟩ : ∃ L1,L1 = L ++ [(⟨o,n,ch.map (·.1),ch.map (·.2)⟩ : Mt)] := ⟨_,rfl⟩
  have hrow := encMs_snoc L ⟨o,n,ch.map (·.1),ch.map (·.2)⟩
  have hsee := seenE_snoc L ⟨o,n,ch.map (·.1),ch.map (·.2)⟩
  have hlen1 : L.length + 1 = L1.length := by rw [hL1e]; simp
  rw [← hL1e] at hvis hL1 hrow hsee
  have hk12 := gx.node.kind
  have hkx := gx.node.kids
  have hky := gy.node.kids
  have hbx := gx.node.bind
  have hby := gy.node.bind
  have hklx := gx.opt.klen
  have hkly := gy.opt.klen
  clear hCh hlk gx gy ex ey
  obtain ⟨kind,name,lo,hi',ws,lbs,vals,kids,⟨vk,vn,vs,vks⟩⟩ := x
  obtain ⟨kind2,name2,lo2,hi2,ws2,lbs2,vals2,kids2,⟨vk2,vn2,vs2,vks2⟩⟩ := y
  simp only at hln hpr h2r h2in h4r hvy hk12 hkx hky hbx hby hklx hkly
  ((conv=>whnf);repeat(refine Xg ?_;conv=>whnf))
  repeat (refine ⟨rfl, ?_⟩; ((conv=>whnf);repeat(refine Xg ?_;conv=>whnf)))
  by_cases hk : kind = kind2
  ·subst hk
   rw [if_neg (by simp)] at hpr
   rw [show (kind != kind) = false by simp]
   ((conv=>whnf);repeat(refine Xg ?_;conv=>whnf))
   by_cases k2 : kind = 2
   ·subst k2
    rw [if_pos rfl] at hpr
    ((conv=>whnf);repeat(refine Xg ?_;conv=>whnf))
    have hlc := hln.1 ⟨rfl,rfl⟩
    refine ALoop.at nngz (fun p : Nat × List Mt => p.1 ≤ kids.length ∧ p.2 = (ps.take p.1).foldl (fun L p => visF A B f p.1 p.2 L) L1 ∧ InvM A.length B.length p.2)
     (fun p => ⟨[(5,.ptr 4 0 0),(7,.ptr 8 0 0),(9,.ip (encN ⟨2,name2,lo2,hi2,ws2,lbs2,vals2,kids2,.mk vk2 vn2 vs2 vks2⟩)),(65,.il 1 (encI kids)),(66,.int .i64 kids.length),(67,.int .i64 p.1)],
      dM A B p.2 7 [(8,.row 56 4 [.agg [.int .i64 o,.int .i64 n,.il 1 (encI (ch.map (·.1))),.il 1 (encBs (ch.map (·.2)))]])],9,167⟩) (fun p => kids.length - p.1) (0,L1) [(0,0),(1,1),(2,2),(3,3),(4,4),(5,5),(22,7),(8,8)] ⟨by simp,by simp,hL1⟩
     (conv_mk _ rfl (dM_conv (rid := 22) (by simp; omega) rfl rfl rfl rfl rfl rfl rfl rfl rfl rfl rfl rfl rfl hsee.symm rfl (.eq (encMs_nn _) hrow.symm) ⟨⟨8,_,rfl,rfl,.same (.cons (.agg' (.cons nn (.cons nn (.cons (.il' (encI_nn _)) (.cons (.il' (encBs_nn _)) .nil))))) .nil)⟩,trivial⟩) ⟨⟨_,rfl,.ptr 4 4 0 0 rfl⟩,⟨_,rfl,.ptr 8 8 0 0 rfl⟩,⟨_,rfl,.same _ (.ip' hyn)⟩,⟨_,rfl,.same _ (.il' (encI_nn _))⟩,⟨_,rfl,.int (by rw [encI_length])⟩,⟨_,rfl,.same _ nn⟩,trivial⟩) ?_
    rintro ⟨k,Lk⟩ ⟨hk,hLk,hIk⟩
    simp only at hk hLk hIk ⊢
    ((conv=>whnf);repeat(refine Xg ?_;conv=>whnf))
    refine bcs_mk (fun hb => ?_) (fun hb => ?_)
    ·have hlt : k < kids.length := by simpa using hb
     have e1 : (encI kids)[((k : Nat) : Int).toNat]? = some (.int .i64 kids[k]) := by simp [encI_get,List.getElem?_eq_getElem hlt]
     obtain ⟨q0,q1⟩ := hkx k _ (List.getElem?_eq_getElem hlt)
     have hc := h2r ⟨rfl,rfl⟩ k hlt
     obtain ⟨c0,c1⟩ := h2in rfl rfl k hlt
     have hpk : ps[k]? = some (kids[k].toNat,kidAt ⟨2,name2,lo2,hi2,ws2,lbs2,vals2,kids2,.mk vk2 vn2 vs2 vks2⟩ (optR ⟨2,name,lo,hi',ws,lbs,vals,kids,.mk vk vn vs vks⟩ ⟨2,name2,lo2,hi2,ws2,lbs2,vals2,kids2,.mk vk2 vn2 vs2 vks2⟩ k).1) := by
      rw [hpr,List.getElem?_map,zip_get (List.getElem?_eq_getElem hlt) hc]; rfl
     generalize optR ⟨2,name,lo,hi',ws,lbs,vals,kids,.mk vk vn vs vks⟩ ⟨2,name2,lo2,hi2,ws2,lbs2,vals2,kids2,.mk vk2 vn2 vs2 vks2⟩ k = c at hc c0 c1 hpk
     generalize kids[k] = q at e1 q0 q1 hpk
     obtain ⟨q,rfl⟩ := Int.eq_ofNat_of_zero_le q0
     obtain ⟨c1',c2⟩ := c
     simp only at c0 c1 hpk
     obtain ⟨cn,rfl⟩ := Int.eq_ofNat_of_zero_le c0
     have e2 : (encI (ch.map (·.1)))[((k : Nat) : Int).toNat]? = some (.int .i64 (cn : Int)) := by simp [encI_get,List.getElem?_map,hc]
     have hcl : cn < kids2.length := by omega
     have e3 : (encI kids2)[((cn : Nat) : Int).toNat]? = some (.int .i64 kids2[cn]) := by simp [encI_get,List.getElem?_eq_getElem hcl]
     obtain ⟨w0,w1⟩ := hky cn _ (List.getElem?_eq_getElem hcl)
     have hka : kidAt ⟨2,name2,lo2,hi2,ws2,lbs2,vals2,kids2,.mk vk2 vn2 vs2 vks2⟩ cn = kids2[cn].toNat := by unfold kidAt; rw [List.getD_eq_getElem?_getD,Int.toNat_natCast,List.getElem?_eq_getElem hcl]; rfl
     rw [hka] at hpk
     generalize kids2[cn] = w at e3 w0 w1 hpk
     obtain ⟨w,rfl⟩ := Int.eq_ofNat_of_zero_le w0
     simp only [Int.toNat_natCast] at hpk
     have hpb := hp _ (List.mem_of_getElem? hpk)
     simp only at hpb
     have hnx := fold_next hpk hLk
     ((conv=>whnf);repeat(refine Xg ?_;conv=>whnf))
     refine opt_mk e1 ?_
     ((conv=>whnf);repeat(refine Xg ?_;conv=>whnf))
     repeat ((first | refine opt_mk e2 ?_ | refine opt_mk e3 ?_ | refine ⟨rfl, ?_⟩); ((conv=>whnf);repeat(refine Xg ?_;conv=>whnf)))
     refine vUse ih (by omega) (by omega) (by omega) hIk (by rfl) (fun _ => by rfl) ?_
     ((conv=>whnf);repeat(refine Xg ?_;conv=>whnf))
     repeat (refine ⟨rfl, ?_⟩; ((conv=>whnf);repeat(refine Xg ?_;conv=>whnf)))
     exact .mk (k + 1,visF A B f q w Lk) [(0,0),(1,1),(2,2),(3,3),(4,4),(5,5),(24,7),(8,8)] ⟨by simp only; omega,hnx,vis_inv hA hB vA vB f q w Lk (by omega) (by omega) hIk⟩
      (conv_mk _ rfl (dM_conv (rid := 24) rfl rfl rfl rfl rfl rfl rfl rfl rfl rfl rfl rfl rfl rfl rfl rfl (.same (encMs_nn _)) ⟨⟨8,_,rfl,rfl,.same (.cons (.agg' (.cons nn (.cons nn (.cons (.il' (encI_nn _)) (.cons (.il' (encBs_nn _)) .nil))))) .nil)⟩,trivial⟩) ⟨⟨_,rfl,.ptr 4 4 0 0 rfl⟩,⟨_,rfl,.ptr 8 8 0 0 rfl⟩,⟨_,rfl,.same _ (.ip' hyn)⟩,⟨_,rfl,.same _ (.il' (encI_nn _))⟩,⟨_,rfl,.same _ nn⟩,⟨_,rfl,.w64 (by simp only; omega) ⟨by simp only; omega,by simp only; omega⟩⟩,trivial⟩) (by simp only; omega)
    ·have hlt : k = kids.length := by simp at hb; omega
     have hpl : ps.length ≤ k := by rw [hpr]; simp; omega
     rw [List.take_of_length_le hpl,← hvis] at hLk
     subst hLk
     ((conv=>whnf);repeat(refine Xg ?_;conv=>whnf))
     exact fin_mk (n' := 8) (m' := dM A B Lk 7 []) [(0,0),(1,1),(2,2),(3,3),(4,4),(5,5),(7,7)] rfl (dM_conv (rid := 7) rfl rfl rfl rfl rfl rfl rfl rfl rfl rfl rfl rfl rfl rfl rfl rfl (.same (encMs_nn _)) trivial) (.same _ nn) ⟨rfl,rfl,rfl⟩
   ·rw [if_neg k2] at hpr
    rw [show (kind == 2) = false by simpa using k2]
    ((conv=>whnf);repeat(refine Xg ?_;conv=>whnf))
    by_cases k3 : kind = 3
    ·subst k3
     rw [if_pos rfl] at hpr
     ((conv=>whnf);repeat(refine Xg ?_;conv=>whnf))
     repeat (refine ⟨rfl, ?_⟩; ((conv=>whnf);repeat(refine Xg ?_;conv=>whnf)))
     refine ALoop.at nngz (fun p : Nat × List Mt => p.1 ≤ min kids.length kids2.length ∧ p.2 = (ps.take p.1).foldl (fun L p => visF A B f p.1 p.2 L) L1 ∧ InvM A.length B.length p.2)
      (fun p => ⟨[(5,.ptr 4 0 0),(8,.ip (encN ⟨3,name,lo,hi',ws,lbs,vals,kids,.mk vk vn vs vks⟩)),(9,.ip (encN ⟨3,name2,lo2,hi2,ws2,lbs2,vals2,kids2,.mk vk2 vn2 vs2 vks2⟩)),(100,.int .i64 (min kids.length kids2.length : Nat)),(101,.int .i64 p.1)],
       dM A B p.2 7 [],8,167⟩) (fun p => min kids.length kids2.length - p.1) (0,L1) [(0,0),(1,1),(2,2),(3,3),(4,4),(5,5),(22,7)] ⟨by simp,by simp,hL1⟩
      (conv_mk _ rfl (dM_conv (rid := 22) (by simp; omega) rfl rfl rfl rfl rfl rfl rfl rfl rfl rfl rfl rfl rfl hsee.symm rfl (.eq (encMs_nn _) hrow.symm) trivial) ⟨⟨_,rfl,.ptr 4 4 0 0 rfl⟩,⟨_,rfl,.same _ (.ip' hxn)⟩,⟨_,rfl,.same _ (.ip' hyn)⟩,⟨_,rfl,.int (by simp only [encI_length]; split <;> omega)⟩,⟨_,rfl,.same _ nn⟩,trivial⟩) ?_
     rintro ⟨k,Lk⟩ ⟨hk,hLk,hIk⟩
     simp only at hk hLk hIk ⊢
     ((conv=>whnf);repeat(refine Xg ?_;conv=>whnf))
     refine bcs_mk (fun hb => ?_) (fun hb => ?_)
     ·have hlt : k < min kids.length kids2.length := by simp at hb; omega
      have hl1 : k < kids.length := by omega
      have hl2 : k < kids2.length := by omega
      have e1 : (encI kids)[((k : Nat) : Int).toNat]? = some (.int .i64 kids[k]) := by simp [encI_get,List.getElem?_eq_getElem hl1]
      have e3 : (encI kids2)[((k : Nat) : Int).toNat]? = some (.int .i64 kids2[k]) := by simp [encI_get,List.getElem?_eq_getElem hl2]
      obtain ⟨q0,q1⟩ := hkx k _ (List.getElem?_eq_getElem hl1)
      obtain ⟨w0,w1⟩ := hky k _ (List.getElem?_eq_getElem hl2)
      have hpk : ps[k]? = some (kids[k].toNat,kids2[k].toNat) := by
       rw [hpr,List.getElem?_map,zip_get (List.getElem?_eq_getElem hl1) (List.getElem?_eq_getElem hl2)]; rfl
      generalize kids[k] = q at e1 q0 q1 hpk
      generalize kids2[k] = w at e3 w0 w1 hpk
      obtain ⟨q,rfl⟩ := Int.eq_ofNat_of_zero_le q0
      obtain ⟨w,rfl⟩ := Int.eq_ofNat_of_zero_le w0
      simp only [Int.toNat_natCast] at hpk
      have hnx := fold_next hpk hLk
      ((conv=>whnf);repeat(refine Xg ?_;conv=>whnf))
      repeat ((first | refine opt_mk e1 ?_ | refine opt_mk e3 ?_ | refine ⟨rfl, ?_⟩); ((conv=>whnf);repeat(refine Xg ?_;conv=>whnf)))
      refine vUse ih (by omega) (by omega) (by omega) hIk (by rfl) (fun _ => by rfl) ?_
      ((conv=>whnf);repeat(refine Xg ?_;conv=>whnf))
      repeat (refine ⟨rfl, ?_⟩; ((conv=>whnf);repeat(refine Xg ?_;conv=>whnf)))
      exact .mk (k + 1,visF A B f q w Lk) [(0,0),(1,1),(2,2),(3,3),(4,4),(5,5),(25,7)] ⟨by simp only; omega,hnx,vis_inv hA hB vA vB f q w Lk (by omega) (by omega) hIk⟩
       (conv_mk _ rfl (dM_conv (rid := 25) rfl rfl rfl rfl rfl rfl rfl rfl rfl rfl rfl rfl rfl rfl rfl rfl (.same (encMs_nn _)) trivial) ⟨⟨_,rfl,.ptr 4 4 0 0 rfl⟩,⟨_,rfl,.same _ (.ip' hxn)⟩,⟨_,rfl,.same _ (.ip' hyn)⟩,⟨_,rfl,.same _ nn⟩,⟨_,rfl,.w64 (by simp only; omega) ⟨by simp only; omega,by simp only; omega⟩⟩,trivial⟩) (by simp only; omega)
     ·have hlt : k = min kids.length kids2.length := by simp at hb; omega
      have hpl : ps.length ≤ k := by rw [hpr]; simp; omega
      rw [List.take_of_length_le hpl,← hvis] at hLk
      subst hLk
      ((conv=>whnf);repeat(refine Xg ?_;conv=>whnf))
      exact fin_mk (n' := 8) (m' := dM A B Lk 7 []) [(0,0),(1,1),(2,2),(3,3),(4,4),(5,5),(7,7)] rfl (dM_conv (rid := 7) rfl rfl rfl rfl rfl rfl rfl rfl rfl rfl rfl rfl rfl rfl rfl rfl (.same (encMs_nn _)) trivial) (.same _ nn) ⟨rfl,rfl,rfl⟩
    ·rw [if_neg k3] at hpr
     rw [show (kind == 3) = false by simpa using k3]
     ((conv=>whnf);repeat(refine Xg ?_;conv=>whnf))
     by_cases k4 : kind = 4
     ·subst k4
      rw [if_pos rfl] at hpr
      have hlx : 0 < kids.length := by have := hbx rfl; omega
      have hly : 0 < kids2.length := by have := hby rfl; omega
      have e1 : (encI kids)[(0 : Int).toNat]? = some (.int .i64 kids[0]) := by rw [show (0 : Int).toNat = 0 from rfl,encI_get,List.getElem?_eq_getElem hlx]; rfl
      have e3 : (encI kids2)[(0 : Int).toNat]? = some (.int .i64 kids2[0]) := by rw [show (0 : Int).toNat = 0 from rfl,encI_get,List.getElem?_eq_getElem hly]; rfl
      obtain ⟨q0,q1⟩ := hkx 0 _ (List.getElem?_eq_getElem hlx)
      obtain ⟨w0,w1⟩ := hky 0 _ (List.getElem?_eq_getElem hly)
      have hka1 : kidAt ⟨4,name,lo,hi',ws,lbs,vals,kids,.mk vk vn vs vks⟩ 0 = kids[0].toNat := by unfold kidAt; rw [List.getD_eq_getElem?_getD,show (0 : Int).toNat = 0 from rfl,List.getElem?_eq_getElem hlx]; rfl
      have hka2 : kidAt ⟨4,name2,lo2,hi2,ws2,lbs2,vals2,kids2,.mk vk2 vn2 vs2 vks2⟩ 0 = kids2[0].toNat := by unfold kidAt; rw [List.getD_eq_getElem?_getD,show (0 : Int).toNat = 0 from rfl,List.getElem?_eq_getElem hly]; rfl
      rw [hka1,hka2] at hpr
      generalize kids[0] = q at e1 q0 q1 hpr
      generalize kids2[0] = w at e3 w0 w1 hpr
      obtain ⟨q,rfl⟩ := Int.eq_ofNat_of_zero_le q0
      obtain ⟨w,rfl⟩ := Int.eq_ofNat_of_zero_le w0
      simp only [Int.toNat_natCast] at hpr
      have hI2 := vis_inv hA hB vA vB f q w L1 (by omega) (by omega) hL1
      rw [hpr,List.foldl_cons] at hvis
      ((conv=>whnf);repeat(refine Xg ?_;conv=>whnf))
      repeat ((first | refine opt_mk e1 ?_ | refine opt_mk e3 ?_ | refine ⟨rfl, ?_⟩); ((conv=>whnf);repeat(refine Xg ?_;conv=>whnf)))
      refine vUseG ih (L := L1) (by omega) (by omega) (by omega) hL1 22 (by rfl) (dM_conv (rid := 22) hlen1 rfl rfl rfl rfl rfl rfl rfl rfl rfl rfl rfl rfl rfl hsee.symm rfl (.eq (encMs_nn _) hrow.symm) trivial) (by rfl) (by rfl) (fun _ => by rfl) ?_
      ((conv=>whnf);repeat(refine Xg ?_;conv=>whnf))
      repeat (refine ⟨rfl, ?_⟩; ((conv=>whnf);repeat(refine Xg ?_;conv=>whnf)))
      refine grd_mk (and_ok (Nat.ble_eq_true_of_le (by rw [encI_length]; simp; omega)) (and_ok (Nat.ble_eq_true_of_le (Nat.le_refl _)) (Nat.ble_eq_true_of_le (Nat.le_refl _)))) ?_
      have ed : List.take ((encI kids).length - Int.toNat 1) (List.drop (Int.toNat 1) (encI kids)) = encI (kids.drop 1) := by
       rw [List.take_of_length_le (by simp)]
       simp [encI]
      rw [ed]
      obtain ⟨kr,hkr⟩ : ∃ kr,kr = kids.drop 1 := ⟨_,rfl⟩
      rw [← hkr] at hvis hpr ⊢
      have hkrl : kr.length = vals.length := by rw [hkr,List.length_drop]; have := hbx rfl; omega
      have hkrx : ∀ (j : Nat) (k : Int),kr[j]? = some k → 0 ≤ k ∧ k < o := fun j k hj => by
       rw [hkr,List.getElem?_drop] at hj
       exact hkx _ k hj
      have h4r := h4r ⟨rfl,rfl⟩
      have hvy := hvy rfl
      have hby := hby rfl
      have hlc := hln.2 ⟨rfl,rfl⟩
      have hpq := fun p (h : p ∈ (kr.zip ch).map (fun p => (p.1.toNat,kidAt ⟨4,name2,lo2,hi2,ws2,lbs2,vals2,kids2,.mk vk2 vn2 vs2 vks2⟩ (p.2.1 + 1)))) => hp p (by rw [hpr]; exact List.mem_cons_of_mem _ h)
      clear hp hpr
      generalize hps : (kr.zip ch).map (fun p => (p.1.toNat,kidAt ⟨4,name2,lo2,hi2,ws2,lbs2,vals2,kids2,.mk vk2 vn2 vs2 vks2⟩ (p.2.1 + 1))) = ps2 at hvis hpq
      ((conv=>whnf);repeat(refine Xg ?_;conv=>whnf))
      generalize visF A B f q w L1 = L2 at hI2 hvis ⊢
      refine ALoop.at nngz (fun p : Nat × List Mt => p.1 ≤ kr.length ∧ p.2 = (ps2.take p.1).foldl (fun L p => visF A B f p.1 p.2 L) L2 ∧ InvM A.length B.length p.2)
       (fun p => ⟨[(5,.ptr 4 0 0),(7,.ptr 8 0 0),(9,.ip (encN ⟨4,name2,lo2,hi2,ws2,lbs2,vals2,kids2,.mk vk2 vn2 vs2 vks2⟩)),(143,.il 1 (encI kr)),(144,.int .i64 kr.length),(145,.int .i64 p.1)],
        dM A B p.2 7 [(8,.row 56 4 [.agg [.int .i64 o,.int .i64 n,.il 1 (encI (ch.map (·.1))),.il 1 (encBs (ch.map (·.2)))]])],9,167⟩) (fun p => kr.length - p.1) (0,L2) [(0,0),(1,1),(2,2),(3,3),(4,4),(5,5),(47,7),(8,8)] ⟨by simp,by simp,hI2⟩
       (conv_mk _ rfl (dM_conv (rid := 47) rfl rfl rfl rfl rfl rfl rfl rfl rfl rfl rfl rfl rfl rfl rfl rfl (.same (encMs_nn _)) ⟨⟨8,_,rfl,rfl,.same (.cons (.agg' (.cons nn (.cons nn (.cons (.il' (encI_nn _)) (.cons (.il' (encBs_nn _)) .nil))))) .nil)⟩,trivial⟩) ⟨⟨_,rfl,.ptr 4 4 0 0 rfl⟩,⟨_,rfl,.ptr 8 8 0 0 rfl⟩,⟨_,rfl,.same _ (.ip' hyn)⟩,⟨_,rfl,.same _ (.il' (encI_nn _))⟩,⟨_,rfl,.int (by rw [encI_length])⟩,⟨_,rfl,.same _ nn⟩,trivial⟩) ?_
      rintro ⟨k,Lk⟩ ⟨hk,hLk,hIk⟩
      simp only at hk hLk hIk ⊢
      ((conv=>whnf);repeat(refine Xg ?_;conv=>whnf))
      refine bcs_mk (fun hb => ?_) (fun hb => ?_)
      ·have hlt : k < kr.length := by simpa using hb
       have e1 : (encI kr)[((k : Nat) : Int).toNat]? = some (.int .i64 kr[k]) := by simp [encI_get,List.getElem?_eq_getElem hlt]
       obtain ⟨q0,q1⟩ := hkrx k _ (List.getElem?_eq_getElem hlt)
       have hc := h4r k _ (List.getElem?_eq_getElem (show k < vals.length by omega))
       have hnr := near_range (l := vals2) vals[k] (by omega)
       unfold nearI at hc
       have hpk : ps2[k]? = some (kr[k].toNat,kidAt ⟨4,name2,lo2,hi2,ws2,lbs2,vals2,kids2,.mk vk2 vn2 vs2 vks2⟩ (((nearV vals2 vals[k]).1 : Int) + 1)) := by
        rw [← hps,List.getElem?_map,zip_get (List.getElem?_eq_getElem hlt) hc]; rfl
       generalize nearV vals2 vals[k] = c at hc hnr hpk
       generalize kr[k] = q at e1 q0 q1 hpk
       obtain ⟨q,rfl⟩ := Int.eq_ofNat_of_zero_le q0
       obtain ⟨cn,c2⟩ := c
       simp only at hnr hpk
       have e2 : (encI (ch.map (·.1)))[((k : Nat) : Int).toNat]? = some (.int .i64 (cn : Int)) := by simp [encI_get,List.getElem?_map,hc]
       have hcl : cn + 1 < kids2.length := by omega
       have hw : IntKind.i64.wrap ((cn : Int) + 1) = ((cn + 1 : Nat) : Int) := w64 (by omega) ⟨by omega,by omega⟩
       have e3 : (encI kids2)[((cn + 1 : Nat) : Int).toNat]? = some (.int .i64 kids2[cn + 1]) := by rw [Int.toNat_natCast,encI_get,List.getElem?_eq_getElem hcl]; rfl
       obtain ⟨w0,w1⟩ := hky (cn + 1) _ (List.getElem?_eq_getElem hcl)
       have hka : kidAt ⟨4,name2,lo2,hi2,ws2,lbs2,vals2,kids2,.mk vk2 vn2 vs2 vks2⟩ ((cn : Int) + 1) = kids2[cn + 1].toNat := by
        unfold kidAt
        rw [List.getD_eq_getElem?_getD,show ((cn : Int) + 1).toNat = cn + 1 by omega,List.getElem?_eq_getElem hcl]; rfl
       rw [hka] at hpk
       generalize kids2[cn + 1] = w at e3 w0 w1 hpk
       obtain ⟨w,rfl⟩ := Int.eq_ofNat_of_zero_le w0
       simp only [Int.toNat_natCast] at hpk
       have hnx := fold_next hpk hLk
       ((conv=>whnf);repeat(refine Xg ?_;conv=>whnf))
       refine opt_mk e1 ?_
       ((conv=>whnf);repeat(refine Xg ?_;conv=>whnf))
       repeat ((first | refine opt_mk e2 ?_ | refine opt_mk e3 ?_ | refine ⟨rfl, ?_⟩); ((conv=>whnf);repeat(refine Xg ?_;conv=>whnf)))
       rw [hw]
       ((conv=>whnf);repeat(refine Xg ?_;conv=>whnf))
       repeat ((first | refine opt_mk e2 ?_ | refine opt_mk e3 ?_ | refine ⟨rfl, ?_⟩); ((conv=>whnf);repeat(refine Xg ?_;conv=>whnf)))
       refine vUse ih (by omega) (by omega) (by omega) hIk (by rfl) (fun _ => by rfl) ?_
       ((conv=>whnf);repeat(refine Xg ?_;conv=>whnf))
       repeat (refine ⟨rfl, ?_⟩; ((conv=>whnf);repeat(refine Xg ?_;conv=>whnf)))
       exact .mk (k + 1,visF A B f q w Lk) [(0,0),(1,1),(2,2),(3,3),(4,4),(5,5),(25,7),(8,8)] ⟨by simp only; omega,hnx,vis_inv hA hB vA vB f q w Lk (by omega) (by omega) hIk⟩
        (conv_mk _ rfl (dM_conv (rid := 25) rfl rfl rfl rfl rfl rfl rfl rfl rfl rfl rfl rfl rfl rfl rfl rfl (.same (encMs_nn _)) ⟨⟨8,_,rfl,rfl,.same (.cons (.agg' (.cons nn (.cons nn (.cons (.il' (encI_nn _)) (.cons (.il' (encBs_nn _)) .nil))))) .nil)⟩,trivial⟩) ⟨⟨_,rfl,.ptr 4 4 0 0 rfl⟩,⟨_,rfl,.ptr 8 8 0 0 rfl⟩,⟨_,rfl,.same _ (.ip' hyn)⟩,⟨_,rfl,.same _ (.il' (encI_nn _))⟩,⟨_,rfl,.same _ nn⟩,⟨_,rfl,.w64 (by simp only; omega) ⟨by simp only; omega,by simp only; omega⟩⟩,trivial⟩) (by simp only; omega)
      ·have hlt : k = kr.length := by simp at hb; omega
       have hpl : ps2.length ≤ k := by rw [← hps]; simp; omega
       rw [List.take_of_length_le hpl,← hvis] at hLk
       subst hLk
       ((conv=>whnf);repeat(refine Xg ?_;conv=>whnf))
       exact fin_mk (n' := 8) (m' := dM A B Lk 7 []) [(0,0),(1,1),(2,2),(3,3),(4,4),(5,5),(7,7)] rfl (dM_conv (rid := 7) rfl rfl rfl rfl rfl rfl rfl rfl rfl rfl rfl rfl rfl rfl rfl rfl (.same (encMs_nn _)) trivial) (.same _ nn) ⟨rfl,rfl,rfl⟩
     ·rw [if_neg k4] at hpr
      rw [show (kind == 4) = false by simpa using k4]
      ((conv=>whnf);repeat(refine Xg ?_;conv=>whnf))
      rw [hpr,List.foldl_nil] at hvis
      rw [hvis]
      exact fin_mk (n' := 8) (m' := dM A B L1 7 []) [(0,0),(1,1),(2,2),(3,3),(4,4),(5,5),(22,7)] rfl (dM_conv (rid := 22) (by simp; omega) rfl rfl rfl rfl rfl rfl rfl rfl rfl rfl rfl rfl rfl hsee.symm rfl (.eq (encMs_nn _) hrow.symm) trivial) (.same _ nn) ⟨rfl,rfl,rfl⟩
  ·rw [if_pos hk] at hpr
   rw [show (kind != kind2) = true by simpa using hk]
   ((conv=>whnf);repeat(refine Xg ?_;conv=>whnf))
   rw [hpr,List.foldl_nil] at hvis
   rw [hvis]
   exact fin_mk (n' := 8) (m' := dM A B L1 7 []) [(0,0),(1,1),(2,2),(3,3),(4,4),(5,5),(22,7)] rfl (dM_conv (rid := 22) (by simp; omega) rfl rfl rfl rfl rfl rfl rfl rfl rfl rfl rfl rfl rfl hsee.symm rfl (.eq (encMs_nn _) hrow.symm) trivial) (.same _ nn) ⟨rfl,rfl,rfl⟩
set_option maxHeartbeats 16000000
theorem dVisAll {A B : List Nd} (hA : TreeIn A) (hB : TreeIn B) (vA : validT A = 0) (vB : validT B = 0) : ∀ f,VisOK A B f
 | 0 => fun o n L h => absurd h (by omega)
 | f + 1 => dVisit hA hB vA vB f (dVisAll hA hB vA vB f)
theorem tree_nn (A : List Nd) : NN (.agg [.il 12 (encNs A)]) := .agg' (.cons (.il' (encNs_nn _)) .nil)
theorem dDiff {A B : List Nd} (hA : TreeIn A) (hB : TreeIn B) : PureC Tryz.prog gz 13 [.agg [.il 12 (encNs A)],.agg [.il 12 (encNs B)]] (.il 4 (encMs (diffM A B))) := by
 have hUA := dUsable A hA
 have hUB := dUsable B hB
 have hpa := @usable_parts A
 have hpb := @usable_parts B
 have hd : diffM A B = if usableT A = true ∧ usableT B = true then visF A B A.length (A.length - 1) (B.length - 1) [] else [] := rfl
 have hVis := fun (vA : validT A = 0) (vB : validT B = 0) => dVisAll hA hB vA vB A.length
 generalize diffM A B = res at hd ⊢
 generalize usableT A = ua at hUA hpa hd
 generalize usableT B = ub at hUB hpb hd
 refine acalls_go nngz Tryz.func13 rfl ?_
 ((conv=>whnf);repeat(refine Xg ?_;conv=>whnf))
 refine hUA.goG ?_ (.cons (tree_nn A) .nil)
 cases ua with
 | false =>
  ((conv=>whnf);repeat(refine Xg ?_;conv=>whnf))
  rw [hd]
  exact fin_cv (r' := .il 4 (encMs [])) (.nil 4) ⟨by simp,rfl,rfl⟩
 | true =>
  ((conv=>whnf);repeat(refine Xg ?_;conv=>whnf))
  refine hUB.goG ?_ (.cons (tree_nn B) .nil)
  cases ub with
  | false =>
   ((conv=>whnf);repeat(refine Xg ?_;conv=>whnf))
   rw [hd]
   exact fin_cv (r' := .il 4 (encMs [])) (.nil 4) ⟨by simp,rfl,rfl⟩
  | true =>
   rw [if_pos ⟨rfl,rfl⟩] at hd
   obtain ⟨a1,a2⟩ := hpa rfl
   obtain ⟨b1,b2⟩ := hpb rfl
   have hV := hVis a2 b2 (A.length - 1) (B.length - 1) [] (by omega) (by omega) (by omega) (inv_nil _ _)
   rw [← hd] at hV
   have w1 : IntKind.i64.wrap (((encNs A).length : Int) - 1) = ((A.length - 1 : Nat) : Int) := w64 (by rw [encNs_length]; omega) ⟨by have := hA.len; omega,by have := hA.len; omega⟩
   have w2 : IntKind.i64.wrap (((encNs B).length : Int) - 1) = ((B.length - 1 : Nat) : Int) := w64 (by rw [encNs_length]; omega) ⟨by have := hB.len; omega,by have := hB.len; omega⟩
   ((conv=>whnf);repeat(refine Xg ?_;conv=>whnf))
   rw [w1,w2]
   refine ACalls.ph 56 4 ?_
   unfold vQ at hV
   refine ACalls.useN nngz [(4,0),(0,1),(1,2),(2,3),(5,4),(3,5),(6,6)] hV (by rfl) (.cons (.same _ nn) (.cons (.ptr 4 0 0 0 rfl) (.cons (.ptr 0 1 0 0 rfl) (.cons (.ptr 1 2 0 0 rfl) (.cons (.ptr 2 3 0 0 rfl) (.cons (.ptr 5 4 0 0 rfl) .nil))))))
    ⟨⟨4,_,rfl,rfl,.cons (.one rfl rfl (.mp 3 5 rfl)) .nil⟩,⟨0,_,rfl,rfl,tree_cv A⟩,⟨1,_,rfl,rfl,tree_cv B⟩,⟨2,_,rfl,rfl,.cons (.one rfl rfl (.nslk 6 6 _ rfl rfl)) .nil⟩,
     ⟨5,_,rfl,rfl,.cons (.one rfl rfl (.fn _ [] [] [.ptr 4 0 0,.ptr 0 0 0,.ptr 1 0 0,.ptr 2 0 0,.ptr 5 0 0] [.ptr 0 0 0,.ptr 1 0 0,.ptr 2 0 0,.ptr 3 0 0,.ptr 4 0 0] rfl rfl (by simp) (CvL.cons (.ptr 4 0 0 0 rfl) (.cons (.ptr 0 1 0 0 rfl) (.cons (.ptr 1 2 0 0 rfl) (.cons (.ptr 2 3 0 0 rfl) (.cons (.ptr 5 4 0 0 rfl) .nil))))).2)) .nil⟩,
     ⟨3,_,rfl,rfl,seen_cv []⟩,⟨6,_,rfl,rfl,.same .nil⟩,trivial⟩ (by rfl) ?_
   rintro r m k ⟨rfl,rfl,rfl⟩
   refine ⟨[(3,2),(7,7)],.tup [],[(2,.row 44 1 [.sl 7 0 res.length]),(7,.row 56 4 (encMs res))],8,.same _ nn,⟨⟨3,_,rfl,rfl,.cons (.one rfl rfl (.sl 7 7 0 _ rfl)) .nil⟩,⟨7,_,rfl,rfl,.same (encMs_nn _)⟩,trivial⟩,by rfl, ?_⟩
   ((conv=>whnf);repeat(refine Xg ?_;conv=>whnf))
   exact fin_cv (r' := .il 4 (encMs res)) (.fz' (id := 7) rfl rfl (by rw [encMs_length]; omega) (by rw [List.drop_zero]; exact List.take_of_length_le (by rw [encMs_length]; omega)) (encMs_nn _)) ⟨rfl,rfl,rfl⟩
theorem nodeAt_get {A : List Nd} {i : Nat} (h : i < A.length) : A[i]? = some (nodeAt A i) := by
 have := List.getElem?_eq_getElem h
 rw [nodeAt_eq this]; exact this
theorem dChanged {A B : List Nd} (hA : TreeIn A) (hB : TreeIn B) : PureC Tryz.prog gz 18 [.agg [.il 12 (encNs A)],.agg [.il 12 (encNs B)]] (.int .i64 (changedM A B)) := by
 have hUA := dUsable A hA
 have hUB := dUsable B hB
 have hD := dDiff hA hB
 have hr := diff_rng hA hB
 have hl := diff_len hA hB
 have hd : changedM A B = if usableT A = true ∧ usableT B = true then badM A B (diffM A B) else if A.length = 0 ∧ B.length = 0 then 0 else 1 := rfl
 generalize changedM A B = res at hd ⊢
 generalize diffM A B = L at hD hr hl hd
 generalize usableT A = ua at hUA hd
 generalize usableT B = ub at hUB hd
 have z1 : (((encNs A).length : Int) == 0) = decide (A.length = 0) := by rw [encNs_length,Bool.eq_iff_iff]; simp
 have z2 : (((encNs B).length : Int) == 0) = decide (B.length = 0) := by rw [encNs_length,Bool.eq_iff_iff]; simp
 refine acalls_go nngz Tryz.func18 rfl ?_
 ((conv=>whnf);repeat(refine Xg ?_;conv=>whnf))
 refine hUA.goG ?_ (.cons (tree_nn A) .nil)
 cases ua with
 | false =>
  rw [if_neg (by simp)] at hd
  ((conv=>whnf);repeat(refine Xg ?_;conv=>whnf))
  rw [z1]
  by_cases e1 : A.length = 0
  ·rw [decide_eq_true e1]
   ((conv=>whnf);repeat(refine Xg ?_;conv=>whnf))
   rw [z2]
   by_cases e2 : B.length = 0
   ·rw [if_pos ⟨e1,e2⟩] at hd
    rw [decide_eq_true e2,hd]
    ((conv=>whnf);repeat(refine Xg ?_;conv=>whnf))
    exact fin_pure nn ⟨rfl,rfl,rfl⟩
   ·rw [if_neg (fun h => e2 h.2)] at hd
    rw [decide_eq_false e2,hd]
    ((conv=>whnf);repeat(refine Xg ?_;conv=>whnf))
    exact fin_pure nn ⟨rfl,rfl,rfl⟩
  ·rw [if_neg (fun h => e1 h.1)] at hd
   rw [decide_eq_false e1,hd]
   ((conv=>whnf);repeat(refine Xg ?_;conv=>whnf))
   exact fin_pure nn ⟨rfl,rfl,rfl⟩
 | true =>
  ((conv=>whnf);repeat(refine Xg ?_;conv=>whnf))
  refine hUB.goG ?_ (.cons (tree_nn B) .nil)
  cases ub with
  | false =>
   rw [if_neg (by simp)] at hd
   ((conv=>whnf);repeat(refine Xg ?_;conv=>whnf))
   rw [z1]
   by_cases e1 : A.length = 0
   ·rw [decide_eq_true e1]
    ((conv=>whnf);repeat(refine Xg ?_;conv=>whnf))
    rw [z2]
    by_cases e2 : B.length = 0
    ·rw [if_pos ⟨e1,e2⟩] at hd
     rw [decide_eq_true e2,hd]
     ((conv=>whnf);repeat(refine Xg ?_;conv=>whnf))
     exact fin_pure nn ⟨rfl,rfl,rfl⟩
    ·rw [if_neg (fun h => e2 h.2)] at hd
     rw [decide_eq_false e2,hd]
     ((conv=>whnf);repeat(refine Xg ?_;conv=>whnf))
     exact fin_pure nn ⟨rfl,rfl,rfl⟩
   ·rw [if_neg (fun h => e1 h.1)] at hd
    rw [decide_eq_false e1,hd]
    ((conv=>whnf);repeat(refine Xg ?_;conv=>whnf))
    exact fin_pure nn ⟨rfl,rfl,rfl⟩
  | true =>
   rw [if_pos ⟨rfl,rfl⟩] at hd
   ((conv=>whnf);repeat(refine Xg ?_;conv=>whnf))
   refine hD.use nngz (.cons (tree_nn A) (.cons (tree_nn B) .nil)) (.il' (encMs_nn _)) ?_
   ((conv=>whnf);repeat(refine Xg ?_;conv=>whnf))
   refine ALoop.at nngz (fun k : Nat => k ≤ L.length)
    (fun k => ⟨[(2,.ptr 0 0 0),(3,.ptr 1 0 0),(5,.int .i64 (badM A B (L.take k) : Nat)),(28,.il 4 (encMs L)),(29,.int .i64 L.length),(30,.int .i64 k)],
     [(0,.row 25 1 [.agg [.il 12 (encNs A)]]),(1,.row 25 1 [.agg [.il 12 (encNs B)]])],2,50⟩) (fun k => L.length - k) 0 [(0,0),(1,1)] (by simp)
    (conv_mk _ rfl ⟨⟨0,_,rfl,rfl,tree_cv A⟩,⟨1,_,rfl,rfl,tree_cv B⟩,trivial⟩ ⟨⟨_,rfl,.ptr 0 0 0 0 rfl⟩,⟨_,rfl,.ptr 1 1 0 0 rfl⟩,⟨_,rfl,.int (by simp [badM])⟩,⟨_,rfl,.same _ (.il' (encMs_nn _))⟩,⟨_,rfl,.int (by rw [encMs_length])⟩,⟨_,rfl,.same _ nn⟩,trivial⟩) ?_
   intro k hk
   ((conv=>whnf);repeat(refine Xg ?_;conv=>whnf))
   refine bcs_mk (fun hb => ?_) (fun hb => ?_)
   ·have hlt : k < L.length := by simpa using hb
    have hg : L[k]? = some L[k] := List.getElem?_eq_getElem hlt
    have em : (encMs L)[((k : Nat) : Int).toNat]? = some (encM L[k]) := by simp [encMs_get,hg]
    have hm := hr _ (List.getElem_mem hlt)
    have hbs := badM_snoc A B (L.take k) L[k]
    rw [← List.take_succ_eq_append_getElem hlt] at hbs
    have hble := badM_le A B (L.take k)
    have htl : (L.take k).length ≤ 1000000 := by simp; omega
    generalize L[k] = m at em hm hbs
    obtain ⟨mo,mn,mp,ms⟩ := m
    simp only at hm hbs
    have hx := nodeAt_get hm.1
    have hy := nodeAt_get hm.2
    have ex : (encNs A)[((mo : Nat) : Int).toNat]? = some (encN (nodeAt A mo)) := by simp [encNs_get,hx]
    have ey : (encNs B)[((mn : Nat) : Int).toNat]? = some (encN (nodeAt B mn)) := by simp [encNs_get,hy]
    have hE := dExact (nodeAt A mo) (nodeAt B mn) (hA.ok _ (List.mem_of_getElem? hx)) (hB.ok _ (List.mem_of_getElem? hy))
    generalize badM A B (L.take k) = b0 at hbs hble ⊢
    generalize nodeAt A mo = x at ex hE hbs
    generalize nodeAt B mn = y at ey hE hbs
    have hxn := encN_nn x
    have hyn := encN_nn y
    ((conv=>whnf);repeat(refine Xg ?_;conv=>whnf))
    refine opt_mk em ?_
    ((conv=>whnf);repeat(refine Xg ?_;conv=>whnf))
    repeat ((first | refine opt_mk ex ?_ | refine opt_mk ey ?_ | refine ⟨rfl, ?_⟩); ((conv=>whnf);repeat(refine Xg ?_;conv=>whnf)))
    refine hE.goG ?_ (.cons (.ip' hxn) (.cons (.ip' hyn) .nil))
    cases he : exactN x y with
    | true =>
     rw [if_pos he] at hbs
     ((conv=>whnf);repeat(refine Xg ?_;conv=>whnf))
     repeat (refine ⟨rfl, ?_⟩; ((conv=>whnf);repeat(refine Xg ?_;conv=>whnf)))
     exact .mk (k + 1) [(0,0),(1,1)] (by omega)
      (conv_mk _ rfl ⟨⟨0,_,rfl,rfl,tree_cv A⟩,⟨1,_,rfl,rfl,tree_cv B⟩,trivial⟩ ⟨⟨_,rfl,.ptr 0 0 0 0 rfl⟩,⟨_,rfl,.ptr 1 1 0 0 rfl⟩,⟨_,rfl,.int (by omega)⟩,⟨_,rfl,.same _ (.il' (encMs_nn _))⟩,⟨_,rfl,.same _ nn⟩,⟨_,rfl,.w64 (by omega) ⟨by omega,by omega⟩⟩,trivial⟩) (by omega)
    | false =>
     rw [if_neg (by rw [he]; simp)] at hbs
     ((conv=>whnf);repeat(refine Xg ?_;conv=>whnf))
     repeat (refine ⟨rfl, ?_⟩; ((conv=>whnf);repeat(refine Xg ?_;conv=>whnf)))
     exact .mk (k + 1) [(0,0),(1,1)] (by omega)
      (conv_mk _ rfl ⟨⟨0,_,rfl,rfl,tree_cv A⟩,⟨1,_,rfl,rfl,tree_cv B⟩,trivial⟩ ⟨⟨_,rfl,.ptr 0 0 0 0 rfl⟩,⟨_,rfl,.ptr 1 1 0 0 rfl⟩,⟨_,rfl,.w64 (by omega) ⟨by omega,by omega⟩⟩,⟨_,rfl,.same _ (.il' (encMs_nn _))⟩,⟨_,rfl,.same _ nn⟩,⟨_,rfl,.w64 (by omega) ⟨by omega,by omega⟩⟩,trivial⟩) (by omega)
   ·have hlt : k = L.length := by simp at hb; omega
    rw [hlt,List.take_length,← hd]
    ((conv=>whnf);repeat(refine Xg ?_;conv=>whnf))
    exact fin_pure nn ⟨rfl,rfl,rfl⟩
theorem dSame {A B : List Nd} (hA : TreeIn A) (hB : TreeIn B) : PureC Tryz.prog gz 19 [.agg [.il 12 (encNs A)],.agg [.il 12 (encNs B)]] (.bool (decide (changedM A B = 0))) := by
 have hC := dChanged hA hB
 generalize changedM A B = c at hC ⊢
 refine acalls_go nngz Tryz.func19 rfl ?_
 ((conv=>whnf);repeat(refine Xg ?_;conv=>whnf))
 refine hC.use nngz (.cons (tree_nn A) (.cons (tree_nn B) .nil)) nn ?_
 ((conv=>whnf);repeat(refine Xg ?_;conv=>whnf))
 exact fin_pure nn ⟨by congr 1; rw [Bool.eq_iff_iff]; simp,rfl,rfl⟩
set_option maxHeartbeats 16000000
set_option maxHeartbeats 8000000
theorem fLists (ns : List Nd) (n : Nat) (hn : n ≤ ns.length) (hl : ns.length ≤ 100000) (hg : ∀ (i : Nat) (x : Nd),i < n → ns[i]? = some x → GoodN i x) :
  ACalls Tryz.prog [] 77 [.agg [.il 12 (encNs ns)],.int .i64 n] [] 0 fun r m k => r = .sl 0 0 n ∧ m = [(0,.row 128 2 (Go.Ax.encLs (listsT (ns.take n))))] ∧ k = 1 := by
 refine acalls_go nnΓ Tryz.func77 rfl ?_
 ((conv=>whnf);repeat(refine Xg ?_;conv=>whnf))
 refine ALoop.ph 128 2 ?_
 refine ALoop.at nnΓ (fun i : Nat => i ≤ n)
  (fun i => ⟨[(1,.int .i64 n),(2,.ptr 1 0 0),(5,.sl 2 0 i),(6,.int .i64 i)],[(1,.row 25 1 [.agg [.il 12 (encNs ns)]]),(2,.row 128 2 (Go.Ax.encLs (listsT (ns.take i))))],3,23⟩)
  (fun i => n - i) 0 [(0,1),(1,2)] (by simp)
  (conv_mk _ rfl ⟨⟨0,_,rfl,rfl,.same (.cons (.agg' (.cons (.il' (encNs_nn _)) .nil)) .nil)⟩,⟨1,_,rfl,rfl,.same .nil⟩,trivial⟩ ⟨⟨_,rfl,.same _ nn⟩,⟨_,rfl,.ptr 0 1 0 0 rfl⟩,⟨_,rfl,.nslk 1 2 _ rfl rfl⟩,⟨_,rfl,.same _ nn⟩,trivial⟩) ?_
 intro i hi
 ((conv=>whnf);repeat(refine Xg ?_;conv=>whnf))
 refine bcs_mk (fun h => ?_) (fun h => ?_)
 ·have hin : i < n := by simp at h; omega
  obtain ⟨x,hx1,hx2,ex,bx⟩ := encN_own (l := ns) (k := i) (n := ns.length) (by omega) rfl
  have ex : (encNs ns)[((i : Nat) : Int).toNat]? = some (encN x) := by rw [Nat.zero_add] at ex; exact ex
  have hgx := hg i x hin hx1
  have htl : (listsT (ns.take i)).length = i := by rw [listsT_length]; simp; omega
  have hL := oList i x (listsT (ns.take i)) hgx htl.symm (listsT_good _ fun j y hy => by
   have hj := (List.getElem?_eq_some_iff.1 hy).1
   rw [List.getElem?_take,if_pos (by simp at hj; omega)] at hy
   exact hg j y (by simp at hj; omega) hy)
  have hnx : listsT (ns.take (i + 1)) = listsT (ns.take i) ++ [listN x (listsT (ns.take i))] := by rw [List.take_succ_eq_append_getElem (by omega),hx2,listsT_snoc]
  have hxn := encN_nn x
  have hxc : (encN x).cells.length = 12 := by obtain ⟨kind,name,lo,hi,ws,ls,vals,kids,⟨vk,vn,vs,vks⟩⟩ := x; rfl
  generalize listN x (listsT (ns.take i)) = nl at hL hnx
  obtain ⟨bs,hbs⟩ : ∃ bs,bs = listsT (ns.take i) := ⟨_,rfl⟩
  rw [← hbs] at hL hnx htl ⊢
  obtain ⟨kind,name,lo,hi,ws,ls,vals,kids,⟨vk,vn,vs,vks⟩⟩ := x
  ((conv=>whnf);repeat(refine Xg ?_;conv=>whnf))
  repeat ((first | refine grd_mk bx ?_ | refine opt_mk ex ?_); ((conv=>whnf);repeat(refine Xg ?_;conv=>whnf)))
  refine ACalls.use1 nnΓ hL 2 rfl (Go.Ax.encLs_nn bs) (.cons (.same _ hxn) (.cons (.slE rfl htl.symm) .nil)) ?_
  rintro r m k ⟨rfl,rfl⟩
  refine ⟨_,rfl,encL_nn _,Go.Ax.encLs_nn bs, ?_⟩
  ((conv=>whnf);repeat(refine Xg ?_;conv=>whnf))
  refine grd_mk (app_ok rfl rfl (by rw [Go.Ax.encLs_length,htl]) (by simp; omega)) ?_
  ((conv=>whnf);repeat(refine Xg ?_;conv=>whnf))
  exact .mk (i + 1) [(1,1),(4,2)] (by omega)
   (conv_mk _ rfl ⟨⟨1,_,rfl,rfl,.same (.cons (.agg' (.cons (.il' (encNs_nn _)) .nil)) .nil)⟩,⟨4,_,rfl,rfl,.eq (Go.Ax.encLs_nn _) (by rw [hnx]; simp [Go.Ax.encLs])⟩,trivial⟩ ⟨⟨_,rfl,.same _ nn⟩,⟨_,rfl,.ptr 1 1 0 0 rfl⟩,⟨_,rfl,.slE rfl (by simp)⟩,⟨_,rfl,.w64 (by omega) ⟨by omega,by omega⟩⟩,trivial⟩) (by omega)
 ·have hin : i = n := by simp at h; omega
  subst hin
  ((conv=>whnf);repeat(refine Xg ?_;conv=>whnf))
  exact fin_mk (r' := .sl 0 0 i) (n' := 1) (m' := [(0,.row 128 2 (Go.Ax.encLs (listsT (ns.take i))))]) [(2,0)] rfl ⟨⟨2,_,rfl,rfl,.same (Go.Ax.encLs_nn _)⟩,trivial⟩ (.sl 2 0 0 _ rfl) ⟨rfl,rfl,rfl⟩
theorem fValues (ns : List Nd) (i : Nat) (hi : i < ns.length) (hl : ns.length ≤ 100000) (hg : ∀ (j : Nat) (x : Nd),j < i + 1 → ns[j]? = some x → GoodN j x) :
  ACalls Tryz.prog [] 44 [.agg [.il 12 (encNs ns)],.int .i64 i] [] 0 fun r m k => r = .tup [.il 4 (encVs (atL (listsT (ns.take (i + 1))) i).vals),.bool (!(atL (listsT (ns.take (i + 1))) i).many)] ∧ m = [] ∧ k = 0 := by
 have hL := fLists ns (i + 1) (by omega) hl hg
 have hw : IntKind.i64.wrap ((i : Int) + 1) = ((i + 1 : Nat) : Int) := w64 (by omega) ⟨by omega,by omega⟩
 have hat := listsT_at hi
 have hlen : (listsT (ns.take (i + 1))).length = i + 1 := by rw [listsT_length]; simp; omega
 generalize atL (listsT (ns.take (i + 1))) i = b at hat ⊢
 generalize listsT (ns.take (i + 1)) = bs at hL hat hlen
 obtain ⟨bv,bm⟩ := b
 have e2 : (Go.Ax.encLs bs)[0 + ((i : Nat) : Int).toNat]? = some (encL ⟨bv,bm⟩) := by rw [Nat.zero_add,Int.toNat_natCast,Go.Ax.encLs_get,hat]; rfl
 have b2 : Nat.blt ((i : Nat) : Int).toNat (i + 1) = true := Nat.ble_eq_true_of_le (by simp)
 refine acalls_go nnΓ Tryz.func44 rfl ?_
 ((conv=>whnf);repeat(refine Xg ?_;conv=>whnf))
 rw [hw]
 refine ACalls.useN nnΓ [] hL rfl (.cons (.same _ (.agg' (.cons (.il' (encNs_nn _)) .nil))) (.cons (.same _ nn) .nil)) trivial rfl ?_
 rintro r m k ⟨rfl,rfl,rfl⟩
 refine ⟨[(0,2)],.sl 2 0 (i + 1),[(2,.row 128 2 (Go.Ax.encLs bs))],3,.sl 0 2 0 _ rfl,⟨⟨0,_,rfl,rfl,.same (Go.Ax.encLs_nn _)⟩,trivial⟩,rfl, ?_⟩
 ((conv=>whnf);repeat(refine Xg ?_;conv=>whnf))
 repeat ((first | refine ⟨rfl, ?_⟩ | refine grd_mk b2 ?_ | refine opt_mk e2 ?_); ((conv=>whnf);repeat(refine Xg ?_;conv=>whnf)))
 exact fin_pure nn ⟨rfl,rfl,rfl⟩
theorem fBound (ns : List Nd) (x : Nd) (i : Nat) (hi : i ≤ ns.length) (hl : ns.length ≤ 100000) (hg : ∀ (j : Nat) (x : Nd),j < i → ns[j]? = some x → GoodN j x) (hx : okN x) (hk0 : 0 < x.kids.length) (hk : ∀ (j : Nat) (k : Int),x.kids[j]? = some k → 0 ≤ k ∧ k < i) :
  PureC Tryz.prog [] 48 [.agg [.il 12 (encNs ns)],encN x] (.int .i64 (boundE ns x)) := by
 obtain ⟨q,hq⟩ : ∃ q,x.kids[0]? = some q := ⟨x.kids[0],List.getElem?_eq_getElem hk0⟩
 obtain ⟨q1,q2⟩ := hk 0 q hq
 obtain ⟨qn,rfl⟩ := Int.eq_ofNat_of_zero_le q1
 have hgd : x.kids.getD 0 0 = qn := by rw [List.getD_eq_getElem?_getD,hq]; rfl
 have hV := fValues ns qn (by omega) hl fun j y hj hy => hg j y (by omega) hy
 have hbl := atL_good (listsT_good (ns.take (qn + 1)) fun j y hy => hg j y (by have := (getElem_take_some hy).2; omega) (getElem_take_some hy).1) qn
 have hbe : boundE ns x = if (atL (listsT (ns.take (qn + 1))) qn).many = true then 4 else if sameVs (atL (listsT (ns.take (qn + 1))) qn).vals x.values = true then 0 else 1 := by
  unfold boundE
  simp only [hgd,Int.toNat_natCast]
 rw [hbe]
 generalize atL (listsT (ns.take (qn + 1))) qn = b at hV hbl ⊢
 obtain ⟨bv,bm⟩ := b
 simp only at hV hbl ⊢
 have hS := rSameVs bv x.values (by omega) hbl.2
 generalize sameVs bv x.values = sm at hS ⊢
 have ek : (encI x.kids)[(0 : Int).toNat]? = some (.int .i64 (qn : Int)) := by rw [encI_get]; simp [hq]
 obtain ⟨kind,name,lo,hi',ws,ls,vals,kids,⟨vk,vn,vs,vks⟩⟩ := x
 simp only at hS ek
 refine acalls_go nnΓ Tryz.func48 rfl ?_
 ((conv=>whnf);repeat(refine Xg ?_;conv=>whnf))
 repeat ((first | refine ⟨rfl, ?_⟩ | refine opt_mk ek ?_); ((conv=>whnf);repeat(refine Xg ?_;conv=>whnf)))
 refine PureC.go hV ?_ (.cons (.agg' (.cons (.il' (encNs_nn _)) .nil)) (.cons nn .nil))
 cases bm with
 | true =>
  ((conv=>whnf);repeat(refine Xg ?_;conv=>whnf))
  repeat ((first | refine ⟨rfl, ?_⟩ | refine opt_mk ek ?_); ((conv=>whnf);repeat(refine Xg ?_;conv=>whnf)))
  exact fin_pure nn ⟨rfl,rfl,rfl⟩
 | false =>
  ((conv=>whnf);repeat(refine Xg ?_;conv=>whnf))
  repeat ((first | refine ⟨rfl, ?_⟩ | refine opt_mk ek ?_); ((conv=>whnf);repeat(refine Xg ?_;conv=>whnf)))
  refine hS.go ?_
  cases sm with
  | true =>
   ((conv=>whnf);repeat(refine Xg ?_;conv=>whnf))
   exact fin_pure nn ⟨rfl,rfl,rfl⟩
  | false =>
   ((conv=>whnf);repeat(refine Xg ?_;conv=>whnf))
   exact fin_pure nn ⟨rfl,rfl,rfl⟩
set_option maxHeartbeats 16000000
set_option maxRecDepth 100000 set_option linter.unusedSimpArgs false
set_option maxHeartbeats 16000000
theorem abcd_LB : ∀ s ∈ abcd,s ∈ LB := fun s hs => by unfold LB; exact List.mem_cons_of_mem _ (List.mem_append_right _ hs)
theorem fTree (l : List Int) (hl : ∀ x ∈ l,i64 x) {Γ : List (Nat × AV)} {mem : Mem} {nx : Nat} {K : AV → Mem → Nat → Prop} (hk : ∀ ns : List Nd,TreeOK ns → ns.length ≤ 14 → K (.agg [.il 12 (encNs ns)]) mem nx) : ACalls Tryz.prog Γ 6 [.il 1 (encI l)] mem nx K := by
 refine ACalls.goG0 (oTree l hl) ?_
 rintro r m n ⟨ns,hT,hlen,rfl,rfl,rfl⟩
 exact ⟨.agg [.il 12 (encNs ns)],.agg' (.cons (.fz' (id := 0) rfl rfl (by rw [encNs_length]; omega) (by rw [List.drop_zero]; exact List.take_of_length_le (by rw [encNs_length]; omega)) (encNs_nn _)) .nil),hk ns hT hlen⟩
theorem g0 (l : List Int) (h : ¬ l.length = 0) : ([] ++ encI l)[0 + Int.toNat 0]? = some (.int .i64 (l[0]'(by omega))) := by
 rw [List.nil_append,encI_get]
 show (l[0]?).map _ = _
 rw [List.getElem?_eq_getElem (by omega)]; rfl
set_option maxHeartbeats 16000000
theorem foldl_mem {f : List Mt → Nat × Nat → List Mt} {P : Mt → Prop} (hf : ∀ L p,∀ m ∈ f L p,m ∈ L ∨ P m) : ∀ (ps : List (Nat × Nat)) (L : List Mt),∀ m ∈ ps.foldl f L,m ∈ L ∨ P m
 | [],L,m,h => .inl h
 | p :: ps,L,m,h => by
  rcases foldl_mem hf ps (f L p) m h with h | h
  ·exact hf L p m h
  ·exact .inr h
theorem vis_mem {A B : List Nd} : ∀ (f o n : Nat) (L : List Mt),∀ m ∈ visF A B f o n L,m ∈ L ∨ ∃ o' n',m = mtN (nodeAt A o') (nodeAt B n') o' n'
 | 0,o,n,L,m,h => .inl h
 | f + 1,o,n,L,m,h => by
  unfold visF at h
  split at h
  ·exact .inl h
  ·rcases foldl_mem (P := fun m => ∃ o' n',m = mtN (nodeAt A o') (nodeAt B n') o' n') (fun L p m hm => vis_mem f p.1 p.2 L m hm) _ _ m h with h | h
   ·rcases List.mem_append.1 h with h | h
    ·exact .inl h
    ·simp at h; exact .inr ⟨o,n,h⟩
   ·exact .inr h
theorem nodeAt_cases (A : List Nd) (i : Nat) : nodeAt A i ∈ A ∨ nodeAt A i = ⟨0,[],0,0,[],[],[],[],.mk 0 0 [] []⟩ := by
 unfold nodeAt
 rw [List.getD_eq_getElem?_getD]
 cases h : A[i]? with
 | none => exact .inr rfl
 | some x => exact .inl (List.mem_of_getElem? h)
theorem chN_le {A : List Nd} (hA : TreeIn A) (i : Nat) (y : Nd) : (chN (nodeAt A i) y).length ≤ 2000 := by
 have h : (nodeAt A i).kids.length ≤ 2000 ∧ (nodeAt A i).values.length ≤ 2000 := by
  rcases nodeAt_cases A i with h | h
  ·exact ⟨hA.klen _ h,hA.vlen _ h⟩
  ·rw [h]; exact ⟨by simp,by simp⟩
 unfold chN
 split
 ·simp; exact h.1
 ·split
  ·simp; exact h.2
  ·simp
theorem diff_small {A B : List Nd} (hA : TreeIn A) : ∀ m ∈ diffM A B,m.opts.length ≤ 1000000 ∧ m.same.length ≤ 1000000 := by
 intro m h
 unfold diffM at h
 split at h
 ·rcases vis_mem _ _ _ _ m h with h | ⟨o,n,rfl⟩
  ·simp at h
  ·have := chN_le hA o (nodeAt B n)
   unfold mtN
   simp only [List.length_map]
   omega
 ·simp at h
theorem encMs_take (l : List Mt) {k : Nat} {m : Mt} (h : l[k]? = some m) : encMs (l.take k) ++ [encM m] = encMs (l.take (k + 1)) := by
 rw [List.take_add_one,h]; simp [encMs]
theorem plain (l : List Mt) (hl : l.length ≤ 1000000) : PureC Tryz.prog [] 16 [.il 4 (encMs l)] (.il 4 (encMs l)) := by
 refine acalls_go nnΓ Tryz.func16 rfl ?_
 ((conv=>whnf);repeat(refine Xg ?_;conv=>whnf))
 refine ALoop.ph 78 4 ?_
 refine ALoop.at nnΓ (fun k : Nat => k ≤ l.length) (fun k => ⟨[(0,.il 4 (encMs l)),(3,.sl 0 0 k),(4,.int .i64 k)],[(0,.row 78 4 (encMs (l.take k)))],1,36⟩) (fun k => l.length - k) 0 [(0,0)] (by simp)
  (conv_mk _ rfl ⟨⟨0,_,rfl,rfl,.same .nil⟩,trivial⟩ ⟨⟨_,rfl,.same _ (.il' (encMs_nn _))⟩,⟨_,rfl,.nslk 0 0 _ rfl rfl⟩,⟨_,rfl,.same _ nn⟩,trivial⟩) ?_
 intro k hk
 ((conv=>whnf);repeat(refine Xg ?_;conv=>whnf))
 refine bcs_mk (fun hb => ?_) (fun hb => ?_)
 ·have hlt : k < l.length := by rw [encMs_length] at hb; simpa using hb
  have hg : l[k]? = some l[k] := List.getElem?_eq_getElem hlt
  have em : (encMs l)[((k : Nat) : Int).toNat]? = some (encM l[k]) := by simp [encMs_get,hg]
  have et := encMs_take l hg
  generalize l[k] = m at em hg et
  obtain ⟨mo,mn,mp,ms⟩ := m
  ((conv=>whnf);repeat(refine Xg ?_;conv=>whnf))
  repeat ((first | refine opt_mk em ?_ | refine ⟨rfl, ?_⟩); ((conv=>whnf);repeat(refine Xg ?_;conv=>whnf)))
  refine grd_mk (app_ok rfl rfl (by rw [encMs_length,List.length_take]; omega) (by simp; omega)) ?_
  ((conv=>whnf);repeat(refine Xg ?_;conv=>whnf))
  exact .mk (k + 1) [(26,0)] (by omega) (conv_mk _ rfl ⟨⟨26,_,rfl,rfl,.eq (encMs_nn _) et⟩,trivial⟩ ⟨⟨_,rfl,.same _ (.il' (encMs_nn _))⟩,⟨_,rfl,.slE rfl (by simp)⟩,⟨_,rfl,.w64 (by omega) ⟨by omega,by omega⟩⟩,trivial⟩) (by omega)
 ·have hlt : k = l.length := by rw [encMs_length] at hb; simp at hb; omega
  subst hlt
  ((conv=>whnf);repeat(refine Xg ?_;conv=>whnf))
  exact fin_cv (r' := .il 4 (encMs l)) (.fz' (id := 0) rfl rfl (by rw [List.take_length,encMs_length]; omega) (by rw [List.take_length,List.drop_zero]; exact List.take_of_length_le (by rw [encMs_length]; omega)) (encMs_nn _)) ⟨rfl,rfl,rfl⟩
set_option maxHeartbeats 16000000
theorem eq0_len {α : Type} (l : List α) (xs : List AV) (h : xs.length = l.length) : (((xs.length : Nat) : Int) == 0) = decide (l.length = 0) := by rw [h,Bool.eq_iff_iff]; simp
theorem mk_ok {a b c : Bool} {n bytes : Nat} (ha : a = true) (hb : b = true) (hc : c = true) (h : n ≤ 4294967296) (hby : Nat.ble bytes 4096 = true) :
  (a && (b && (c && (decide (0 ≤ (n : Int)) && (decide ((n : Int) ≤ n) && (decide ((bytes : Int) * n ≤ 281474976710656) && decide ((n : Int) ≤ 9223372036854775807))))))) = true := by
 have hby := Nat.le_of_ble_eq_true hby
 have h3 : bytes * n ≤ 4096 * 4294967296 := Nat.mul_le_mul hby h
 have h4 : ((bytes : Nat) : Int) * (n : Int) = ((bytes * n : Nat) : Int) := by simp
 rw [ha,hb,hc,h4,decide_eq_true (by omega),decide_eq_true (by omega),decide_eq_true (by omega),decide_eq_true (by omega)]
 rfl
def fillV (zs : List AV) (l : List AV) (k : Nat) : List AV := l.take k ++ zs.drop k
theorem fillV_all {zs l : List AV} (h : zs.length = l.length) : fillV zs l l.length = l := by simp [fillV]; omega
theorem fillV_get {zs l : List AV} (h : zs.length = l.length) {k : Nat} (hk : k < l.length) : (fillV zs l k)[k]? = zs[k]? := by
 unfold fillV
 rw [List.getElem?_append_right (by rw [List.length_take]; omega)]
 rw [List.length_take,Nat.min_eq_left (Nat.le_of_lt hk),Nat.sub_self,List.getElem?_drop,Nat.add_zero]
theorem fillV_set {zs l : List AV} (h : zs.length = l.length) {k : Nat} (hk : k < l.length) {v : AV} (hv : l[k]? = some v) : (fillV zs l k).set k v = fillV zs l (k + 1) := by
 unfold fillV
 rw [List.set_append_right _ _ (by rw [List.length_take]; omega)]
 rw [List.length_take,Nat.min_eq_left (Nat.le_of_lt hk),Nat.sub_self,List.drop_eq_getElem_cons (by omega : k < zs.length),List.set_cons_zero,List.take_add_one,hv]
 simp
theorem cvr_rep {mem : Mem} {σ : List (Nat × Nat)} {x y : AV} (h : CvE mem σ x y) (n : Nat) : CvR mem σ (List.replicate n x) (List.replicate n y) := by
 refine ⟨by simp,fun i a b ha hb => ?_⟩
 rw [List.getElem?_replicate] at ha hb
 split at ha
 ·rename_i e
  rw [if_pos e] at hb
  cases ha; cases hb; exact h
 ·cases ha
theorem rep_nn {x : AV} (h : NN x) (n : Nat) : NNs (List.replicate n x) := fun a ha => by
 rw [List.eq_of_mem_replicate ha]; exact h
theorem fillV_nn {zs l : List AV} (h1 : NNs zs) (h2 : NNs l) (k : Nat) : NNs (fillV zs l k) := fun a ha => by
 rcases List.mem_append.1 ha with ha | ha
 ·exact h2 a (List.mem_of_mem_take ha)
 ·exact h1 a (List.mem_of_mem_drop ha)
theorem cFlatI (l : List Int) (hl : l.length ≤ 34359738368) : PureC Tryz.prog [] 71 [.il 1 (encI l)] (.il 1 (encI l)) := by
 refine acalls_go nnΓ Tryz.func71 rfl ?_
 ((conv=>whnf);repeat(refine Xg ?_;conv=>whnf))
 rw [eq0_len l _ (encI_length l)]
 by_cases h0 : l.length = 0
 ·rw [decide_eq_true h0]
  obtain rfl : l = [] := List.eq_nil_of_length_eq_zero h0
  ((conv=>whnf);repeat(refine Xg ?_;conv=>whnf))
  exact fin_cv (r' := .il 1 (encI [])) (.nil 1) ⟨rfl,rfl,rfl⟩
 ·rw [decide_eq_false h0]
  ((conv=>whnf);repeat(refine Xg ?_;conv=>whnf))
  refine grd_mk (app_ok rfl rfl rfl (by rw [encI_length]; omega)) ?_
  ((conv=>whnf);repeat(refine Xg ?_;conv=>whnf))
  exact fin_cv (r' := .il 1 (encI l)) (.fz' (id := 1) (xs := [] ++ encI l) rfl rfl (by simp) (by rw [List.drop_zero]; exact List.take_of_length_le (by simp)) (encI_nn _)) ⟨rfl,rfl,rfl⟩
theorem cFlatO (l : List Int) (hl : l.length ≤ 34359738368) : ACalls Tryz.prog [] 71 [.il 1 (encI l)] [] 0 fun r m n => r = .sl 0 0 l.length ∧ m = [(0,.row 3 1 (encI l))] ∧ n = 1 := by
 refine acalls_go nnΓ Tryz.func71 rfl ?_
 refine AWp.ph 3 1 ?_
 ((conv=>whnf);repeat(refine Xg ?_;conv=>whnf))
 rw [eq0_len l _ (encI_length l)]
 by_cases h0 : l.length = 0
 ·rw [decide_eq_true h0]
  obtain rfl : l = [] := List.eq_nil_of_length_eq_zero h0
  ((conv=>whnf);repeat(refine Xg ?_;conv=>whnf))
  exact fin_mk (n' := 1) (m' := [(0,.row 3 1 (encI []))]) [(0,0)] rfl ⟨⟨0,_,rfl,rfl,.same .nil⟩,trivial⟩ (.nslk 0 0 _ rfl rfl) ⟨rfl,rfl,rfl⟩
 ·rw [decide_eq_false h0]
  ((conv=>whnf);repeat(refine Xg ?_;conv=>whnf))
  refine grd_mk (app_ok rfl rfl rfl (by rw [encI_length]; omega)) ?_
  ((conv=>whnf);repeat(refine Xg ?_;conv=>whnf))
  exact fin_mk (n' := 1) (m' := [(0,.row 3 1 (encI l))]) [(2,0)] rfl ⟨⟨2,_,rfl,rfl,.eq (encI_nn _) (by simp)⟩,trivial⟩ (.slE rfl (by simp [encI_length])) ⟨rfl,rfl,rfl⟩
theorem cFlatS (l : List (List UInt8)) (hl : l.length ≤ 34359738368) : PureC Tryz.prog [] 72 [.il 1 (encS l)] (.il 1 (encS l)) := by
 refine acalls_go nnΓ Tryz.func72 rfl ?_
 ((conv=>whnf);repeat(refine Xg ?_;conv=>whnf))
 rw [eq0_len l _ (encS_length l)]
 by_cases h0 : l.length = 0
 ·rw [decide_eq_true h0]
  obtain rfl : l = [] := List.eq_nil_of_length_eq_zero h0
  ((conv=>whnf);repeat(refine Xg ?_;conv=>whnf))
  exact fin_cv (r' := .il 1 (encS [])) (.nil 1) ⟨rfl,rfl,rfl⟩
 ·rw [decide_eq_false h0]
  ((conv=>whnf);repeat(refine Xg ?_;conv=>whnf))
  refine grd_mk (app_ok rfl rfl rfl (by rw [encS_length]; omega)) ?_
  ((conv=>whnf);repeat(refine Xg ?_;conv=>whnf))
  exact fin_cv (r' := .il 1 (encS l)) (.fz' (id := 1) (xs := [] ++ encS l) rfl rfl (by simp) (by rw [List.drop_zero]; exact List.take_of_length_le (by simp)) (encS_nn _)) ⟨rfl,rfl,rfl⟩
theorem cVals (l : List Val) (hl : l.length ≤ 4294967296) (h : ∀ v ∈ l,PureC Tryz.prog [] 74 [encV v] (encV v)) : PureC Tryz.prog [] 96 [.il 4 (encVs l),.fn (.func 74) [] []] (.il 4 (encVs l)) := by
 refine acalls_go nnΓ Tryz.func96 rfl ?_
 ((conv=>whnf);repeat(refine Xg ?_;conv=>whnf))
 rw [eq0_len l _ (encVs_length l)]
 by_cases h0 : l.length = 0
 ·rw [decide_eq_true h0]
  obtain rfl : l = [] := List.eq_nil_of_length_eq_zero h0
  ((conv=>whnf);repeat(refine Xg ?_;conv=>whnf))
  exact fin_cv (r' := .il 4 (encVs [])) (.nil 4) ⟨rfl,rfl,rfl⟩
 ·rw [decide_eq_false h0]
  ((conv=>whnf);repeat(refine Xg ?_;conv=>whnf))
  rw [encVs_length]
  refine grd_mk (mk_ok rfl rfl rfl hl rfl) ?_
  ((conv=>whnf);repeat(refine Xg ?_;conv=>whnf))
  obtain ⟨zs,hzs⟩ : ∃ zs,zs = List.replicate l.length (encV (.mk 0 0 [] [])) := ⟨_,rfl⟩
  have hzn : NNs zs := by rw [hzs]; exact rep_nn nn _
  have hzl : zs.length = (encVs l).length := by rw [hzs,encVs_length]; simp
  refine ALoop.at nnΓ (fun k : Nat => k ≤ l.length) (fun k => ⟨[(0,.il 4 (encVs l)),(1,.fn (.func 74) [] []),(5,.sl 0 0 l.length),(14,.int .i64 l.length),(15,.int .i64 k)],[(0,.row 33 4 (fillV zs (encVs l) k))],1,29⟩) (fun k => l.length - k) 0 [(0,0)] (by simp)
   (conv_mk _ rfl ⟨⟨0,_,rfl,rfl,by rw [hzs]; exact cvr_rep (cvVal 0 0 []) _⟩,trivial⟩ ⟨⟨_,rfl,.same _ (.il' (encVs_nn _))⟩,⟨_,rfl,.same _ nn⟩,⟨_,rfl,.slE rfl (by simp)⟩,⟨_,rfl,.int (by rw [encVs_length])⟩,⟨_,rfl,.same _ nn⟩,trivial⟩) ?_
  have hz0 : ∀ k < l.length,zs[k]? = some (encV (.mk 0 0 [] [])) := fun k hk => by rw [hzs,List.getElem?_replicate,if_pos hk]
  clear hzs
  intro k hk
  ((conv=>whnf);repeat(refine Xg ?_;conv=>whnf))
  refine bcs_mk (fun hb => ?_) (fun hb => ?_)
  ·have hlt : k < l.length := by simpa using hb
   obtain ⟨v1,v2,v3,v4,vm,vg,-,ev⟩ := enc_cases (l := l) (k := k) hlt
   have hv := h _ vm
   have bx : Nat.blt ((k : Nat) : Int).toNat l.length = true := Nat.ble_eq_true_of_le (by simp; omega)
   have bz : (fillV zs (encVs l) k)[0 + ((k : Nat) : Int).toNat]? = some (encV (.mk 0 0 [] [])) := by
    rw [← hz0 k hlt,show 0 + ((k : Nat) : Int).toNat = k by simp]
    exact fillV_get hzl (by rw [encVs_length]; exact hlt)
   have hs := fillV_set hzl (k := k) (by rw [encVs_length]; exact hlt) (v := encV (.mk v1 v2 v3 v4)) (by rw [encVs_get,vg]; rfl)
   ((conv=>whnf);repeat(refine Xg ?_;conv=>whnf))
   repeat ((first | refine opt_mk ev ?_ | refine ⟨rfl, ?_⟩); ((conv=>whnf);repeat(refine Xg ?_;conv=>whnf)))
   refine hv.go ?_
   ((conv=>whnf);repeat(refine Xg ?_;conv=>whnf))
   repeat ((first | refine grd_mk bx ?_ | refine opt_mk bz ?_ | refine setK_iff.2 ?_ | refine ⟨rfl, ?_⟩); ((conv=>whnf);repeat(refine Xg ?_;conv=>whnf)))
   exact .mk (k + 1) [(0,0)] (by omega)
    (conv_mk _ rfl ⟨⟨0,_,rfl,rfl,.eq (fillV_nn hzn (encVs_nn _) _) (by rw [← hs]; simp; rfl)⟩,trivial⟩ ⟨⟨_,rfl,.same _ (.il' (encVs_nn _))⟩,⟨_,rfl,.same _ nn⟩,⟨_,rfl,.slE rfl rfl⟩,⟨_,rfl,.same _ nn⟩,⟨_,rfl,.w64 (by omega) ⟨by omega,by omega⟩⟩,trivial⟩) (by omega)
  ·have hkl : k = l.length := by simp at hb; omega
   subst hkl
   ((conv=>whnf);repeat(refine Xg ?_;conv=>whnf))
   rw [show fillV zs (encVs l) l.length = encVs l by rw [← encVs_length l]; exact fillV_all hzl]
   exact fin_cv (r' := .il 4 (encVs l)) (.fz' (id := 0) rfl rfl (by rw [encVs_length]; omega) (by rw [List.drop_zero]; exact List.take_of_length_le (by rw [encVs_length]; omega)) (encVs_nn _)) ⟨rfl,rfl,rfl⟩
theorem okVs_mem : ∀ {l : List Val},okVs l → ∀ v ∈ l,okV v
 | [],_,v,h => by cases h
 | a :: r,h,v,hv => by
  simp only [okVs] at h
  rcases List.mem_cons.1 hv with rfl | hv
  ·exact h.1
  ·exact okVs_mem h.2 v hv
theorem cValue : ∀ (f : Nat) (v : Val),sizeV v ≤ f → okV v → PureC Tryz.prog [] 74 [encV v] (encV v)
 | 0,.mk k n s l,h,_ => by simp [sizeV] at h
 | f + 1,.mk k n s l,h,hv => by
  simp only [okV] at hv
  have hk : ∀ v ∈ l,PureC Tryz.prog [] 74 [encV v] (encV v) := fun v hm => cValue f v (by have := sizeV_mem hm; simp [sizeV] at h; omega) (okVs_mem hv.2.2.2.2 v hm)
  have hc := cVals l hv.2.2.2.1 hk
  refine acalls_go nnΓ Tryz.func74 rfl ?_
  ((conv=>whnf);repeat(refine Xg ?_;conv=>whnf))
  refine hc.go ?_ (.cons (.il' (encVs_nn _)) (.cons nn .nil)) (.il' (encVs_nn _))
  ((conv=>whnf);repeat(refine Xg ?_;conv=>whnf))
  repeat ((first | refine setK_iff.2 ?_ | refine ⟨rfl, ?_⟩); ((conv=>whnf);repeat(refine Xg ?_;conv=>whnf)))
  exact fin_pure (encV_nn (.mk k n s l)) ⟨rfl,rfl,rfl⟩
theorem cValues (l : List Val) (hl : l.length ≤ 4294967296) (h : ∀ v ∈ l,okV v) : PureC Tryz.prog [] 73 [.il 4 (encVs l)] (.il 4 (encVs l)) := by
 have hc := cVals l hl fun v hm => cValue _ v (Nat.le_refl _) (h v hm)
 refine acalls_go nnΓ Tryz.func73 rfl ?_
 ((conv=>whnf);repeat(refine Xg ?_;conv=>whnf))
 refine hc.go ?_ (.cons (.il' (encVs_nn _)) (.cons nn .nil)) (.il' (encVs_nn _))
 ((conv=>whnf);repeat(refine Xg ?_;conv=>whnf))
 exact fin_pure (.il' (encVs_nn _)) ⟨rfl,rfl,rfl⟩
theorem cNode (x : Nd) (hx : okN x) : ACalls Tryz.prog [] 42 [encN x] [] 0 fun r m n => r = .agg ((encN x).cells.set 7 (.sl 0 0 x.kids.length)) ∧ m = [(0,.row 3 1 (encI x.kids))] ∧ n = 1 := by
 have b1 := hx.kids
 have b2 := hx.value
 have b3 := hx.valueS
 have b4 := hx.weights
 have b5 := hx.labels
 have b6 := hx.values
 have b7 := hx.valuesI
 obtain ⟨kind,name,lo,hi',ws,lbs,vals,kids,v⟩ := x
 simp only at b1 b2 b3 b4 b5 b6 b7
 have h1 := cFlatI ws (by omega)
 have h2 := cFlatS lbs (by omega)
 have h3 := cValues vals (by omega) fun v hm => (b7 v hm).1
 have h4 := cFlatO kids (by omega)
 have h5 := cValue _ v (Nat.le_refl _) b2
 obtain ⟨vk,vn,vs,vks⟩ := v
 refine acalls_go nnΓ Tryz.func42 rfl ?_
 ((conv=>whnf);repeat(refine Xg ?_;conv=>whnf))
 refine h1.go ?_ (.cons (.il' (encI_nn _)) .nil) (.il' (encI_nn _))
 ((conv=>whnf);repeat(refine Xg ?_;conv=>whnf))
 refine h2.go ?_ (.cons (.il' (encS_nn _)) .nil) (.il' (encS_nn _))
 ((conv=>whnf);repeat(refine Xg ?_;conv=>whnf))
 refine h3.go ?_ (.cons (.il' (encVs_nn _)) .nil) (.il' (encVs_nn _))
 ((conv=>whnf);repeat(refine Xg ?_;conv=>whnf))
 refine ACalls.useN nnΓ [] h4 rfl (.same (.cons (.il' (encI_nn _)) .nil)) trivial rfl ?_
 rintro r m' n' ⟨rfl,rfl,rfl⟩
 refine ⟨[(0,2)],.sl 2 0 kids.length,[(2,.row 3 1 (encI kids))],3,.sl 0 2 0 _ rfl,⟨⟨0,_,rfl,rfl,.same (encI_nn _)⟩,trivial⟩,rfl, ?_⟩
 ((conv=>whnf);repeat(refine Xg ?_;conv=>whnf))
 refine h5.go ?_ (.cons (encV_nn (.mk vk vn vs vks)) .nil) (encV_nn (.mk vk vn vs vks))
 ((conv=>whnf);repeat(refine Xg ?_;conv=>whnf))
 repeat ((first | refine setK_iff.2 ?_ | refine ⟨rfl, ?_⟩); ((conv=>whnf);repeat(refine Xg ?_;conv=>whnf)))
 exact fin_mk (n' := 1) (m' := [(0,.row 3 1 (encI kids))]) [(2,0)] rfl ⟨⟨2,_,rfl,rfl,.same (encI_nn _)⟩,trivial⟩
  (.agg' (.cons (.same _ nn) (.cons (.same _ nn) (.cons (.same _ nn) (.cons (.same _ nn) (.cons (.same _ (.il' (encI_nn _))) (.cons (.same _ (.il' (encS_nn _))) (.cons (.same _ (.il' (encVs_nn _))) (.cons (.sl 2 0 0 _ rfl) (.cons (.same _ nn) (.cons (.same _ nn) (.cons (.same _ nn) (.cons (.same _ (.il' (encVs_nn _))) .nil)))))))))))))
  ⟨rfl,rfl,rfl⟩
set_option maxHeartbeats 4000000
theorem lk_pickM {ids : List Nat} {k : Nat} (hk : inL k ids = true) : ∀ (m : Mem),lk (pickM ids m) k = lk m k
 | [] => rfl
 | (j,b) :: r => by
  simp only [pickM,lk]
  split
  ·simp only [lk,lk_pickM hk r]
  ·rename_i h
   rw [lk_pickM hk r]
   split
   ·rename_i e
    rw [Nat.eq_of_beq_eq_true e,hk] at h
    cases h
   ·rfl
abbrev wrC (id n : Nat) : AB := .row 121 1 [.agg [.sl id 0 n]]
abbrev wrM (s : List UInt8) : Mem := [(0,wrC 1 s.length),(1,.row 5 1 (encB s))]
def wrN (s : List UInt8) (m : Mem) (n : Nat) : Prop := m = [(0,wrC 2 s.length),(2,.row 5 1 (encB s))] ∧ n = 3
def WxQ (s : List UInt8) (r : AV) (m : Mem) (n : Nat) : Prop := r = .tup [] ∧ wrN s m n
theorem wC_cv {mem : Mem} {σ : List (Nat × Nat)} {i j n n' : Nat} (h1 : lk σ i = some j) (h : n = n') : CvR mem σ [.agg [.sl i 0 n]] [.agg [.sl j 0 n']] :=
 .cons (.agg (.cons (.slE h1 h) .nil)) .nil
theorem wUse {Γ : List (Nat × AV)} {F : FuncId} {aa : List AV} {s s' : List UInt8} {rv : AV} {mem : Mem} {nx : Nat} {K : AV → Mem → Nat → Prop} (i : Nat) (hΓ : ∀ p ∈ Γ,NN p.2)
  (h : ACalls Tryz.prog Γ F (.ptr 0 0 0 :: aa) (wrM s) 2 fun r m n => r = rv ∧ wrN s' m n) (h0 : lk mem 0 = some (wrC i s.length)) (h1 : lk mem i = some (.row 5 1 (encB s))) (hi : Nat.blt 0 i = true) (hin : Nat.blt i nx = true)
  (hk : K rv ((0,wrC nx s'.length) :: (nx,.row 5 1 (encB s')) :: dropM [0,i] mem) (nx + 1)) (ha : NNs aa := by exact nns) (hr : NN rv := by exact nn) : ACalls Tryz.prog Γ F (.ptr 0 0 0 :: aa) mem nx K := by
 have hi := Nat.le_of_ble_eq_true hi
 have hin := Nat.le_of_ble_eq_true hin
 have e0 : Nat.beq 0 i = false := nbeq_ne (by omega)
 have k0 : inL 0 [0,i] = true := rfl
 have ki : inL i [0,i] = true := by simp [inL,e0]
 have s0 : lk [(0,0),(i,1)] 0 = some 0 := rfl
 have si : lk [(0,0),(i,1)] i = some 1 := by simp [lk,e0]
 refine ACalls.useN hΓ [(0,0),(i,1)] h rfl (.cons (.ptr 0 0 0 0 rfl) (.same ha)) ⟨⟨0,_,s0,by rw [← h0]; exact lk_pickM k0 mem,wC_cv si rfl⟩,⟨i,_,si,by rw [← h1]; exact lk_pickM ki mem,.same (encB_nn _)⟩,trivial⟩ rfl ?_
 rintro r m n ⟨rfl,rfl,rfl⟩
 refine ⟨[(0,0),(2,nx)],_,[(0,wrC nx s'.length),(nx,.row 5 1 (encB s'))],nx + 1,.same _ hr,⟨⟨0,_,rfl,rfl,wC_cv rfl rfl⟩,⟨2,_,rfl,rfl,.same (encB_nn _)⟩,trivial⟩, ?_,hk⟩
 have e1 : Nat.beq nx 0 = false := nbeq_ne (by omega)
 have e2 : Nat.ble nx 0 = false := by
  cases e : Nat.ble nx 0 with
  | false => rfl
  | true => have := Nat.le_of_ble_eq_true e; omega
 have e3 : Nat.ble nx nx = true := Nat.ble_eq_true_of_le (Nat.le_refl _)
 have e4 : Nat.ble nx (nx + 1) = true := Nat.ble_eq_true_of_le (by omega)
 have e5 : Nat.blt nx (nx + 1) = true := Nat.ble_eq_true_of_le (by omega)
 have e6 : Nat.blt 0 2 = true := rfl
 have e7 : Nat.blt 2 2 = false := rfl
 simp only [nodM,keyOut,nod2,notIn,keysOr,keysS,tauOK,e1,e2,e3,e4,e5,e6,e7,k0,s0]
 rfl
theorem wxFin {s : List UInt8} {xs : List AV} {mem : Mem} {nx i n : Nat} (h0 : lk mem 0 = some (wrC i n)) (h1 : lk mem i = some (.row 5 1 xs)) (hi : 2 ≤ i) (hn : n = s.length) (hx : xs = encB s) : Fini 2 (WxQ s) (.tup []) mem nx := by
 have e0 : Nat.beq 0 i = false := nbeq_ne (by omega)
 have si : lk [(0,0),(i,2)] i = some 2 := by simp [lk,e0]
 exact fin_mk (r' := .tup []) (m' := [(0,wrC 2 s.length),(2,.row 5 1 (encB s))]) (n' := 3) [(0,0),(i,2)] rfl
  ⟨⟨0,_,rfl,h0,wC_cv si hn⟩,⟨i,_,si,h1,.eq (encB_nn _) hx⟩,trivial⟩ (.same _ nn) ⟨rfl,rfl,rfl⟩
theorem wUint (s : List UInt8) (u : Nat) (hu : u < 18446744073709551616) (hs : s.length ≤ 90000000) : ACalls Tryz.prog [] 120 [.ptr 0 0 0,.int .u64 u] (wrM s) 2 (WxQ (s ++ uvar u)) := by
 have hul := uvar_len64 hu
 refine acalls_go nnΓ Tryz.func120 rfl ?_
 ((conv=>whnf);repeat(refine Xg ?_;conv=>whnf))
 refine ALoop.at nnΓ (fun x : Nat × List UInt8 => x.2 ++ uvar x.1 = s ++ uvar u)
  (fun x => ⟨[(0,.ptr 0 0 0),(1,.int .u64 x.1)],[(0,wrC 2 x.2.length),(2,.row 5 1 (encB x.2))],3,31⟩) (fun x => x.1) (u,s) [(0,0),(1,2)] rfl
  (conv_mk _ rfl ⟨⟨0,_,rfl,rfl,wC_cv rfl rfl⟩,⟨1,_,rfl,rfl,.same (encB_nn _)⟩,trivial⟩ ⟨⟨_,rfl,.ptr 0 0 0 0 rfl⟩,⟨_,rfl,.same _ nn⟩,trivial⟩) ?_
 rintro ⟨n,acc⟩ hx
 simp only at hx
 have hal : acc.length ≤ s.length + 10 := by have := congrArg List.length hx; simp at this; omega
 ((conv=>whnf);repeat(refine Xg ?_;conv=>whnf))
 refine bcs_mk (fun h => ?_) (fun h => ?_)
 ·have hn : ¬ n < 128 := by simp at h; omega
  ((conv=>whnf);repeat(refine Xg ?_;conv=>whnf))
  refine grd_mk (app_ok rfl rfl (encB_length _).symm (by simp; omega)) ?_
  ((conv=>whnf);repeat(refine Xg ?_;conv=>whnf))
  rw [more_bits,shr7]
  refine .mk (n / 128,acc ++ [UInt8.ofNat (128 + n % 128)]) [(0,0),(4,2)] ?_ (conv_mk _ rfl ⟨⟨0,_,rfl,rfl,wC_cv rfl (by simp)⟩,⟨4,_,rfl,rfl,.eq (encB_nn _) (by rw [encB_append]; rfl)⟩,trivial⟩ ⟨⟨_,rfl,.ptr 0 0 0 0 rfl⟩,⟨_,rfl,.same _ nn⟩,trivial⟩) (by simp only; omega)
  rw [uvar_big hn] at hx
  simpa using hx
 ·have hn : n < 128 := by simp at h; omega
  ((conv=>whnf);repeat(refine Xg ?_;conv=>whnf))
  refine grd_mk (app_ok rfl rfl (encB_length _).symm (by simp; omega)) ?_
  ((conv=>whnf);repeat(refine Xg ?_;conv=>whnf))
  rw [last_bits hn]
  rw [uvar_small hn] at hx
  exact wxFin (i := 4) rfl rfl (by omega) (by rw [← hx]; simp) (by rw [← hx,encB_append]; rfl)
theorem wInt (s : List UInt8) (n : Int) (hn : i64 n) (hs : s.length ≤ 90000000) : ACalls Tryz.prog [] 97 [.ptr 0 0 0,.int .i64 n] (wrM s) 2 (WxQ (s ++ encInt n)) := by
 have hU := wUint s (zig n) (zig_lt hn) hs
 refine acalls_go nnΓ Tryz.func97 rfl ?_
 have hz := zig_bits hn
 unfold encInt
 generalize zig n = z at hU hz ⊢
 ((conv=>whnf);repeat(refine Xg ?_;conv=>whnf))
 rw [hz]
 refine wUse 1 nnΓ hU rfl rfl rfl rfl ?_
 ((conv=>whnf);repeat(refine Xg ?_;conv=>whnf))
 exact wxFin (i := 2) rfl rfl (by omega) rfl rfl
theorem wText (s w : List UInt8) (hs : s.length + w.length ≤ 90000000) : ACalls Tryz.prog [] 98 [.ptr 0 0 0,.str w] (wrM s) 2 (WxQ (s ++ (uvar w.length ++ w))) := by
 have hU := wUint s w.length (by omega) (by omega)
 have hul := uvar_len64 (n := w.length) (by omega)
 have hw : IntKind.u64.wrap (w.length : Int) = (w.length : Int) := wrap_u64 (by omega) (by omega)
 generalize uvar w.length = x at hU hul ⊢
 refine acalls_go nnΓ Tryz.func98 rfl ?_
 ((conv=>whnf);repeat(refine Xg ?_;conv=>whnf))
 rw [hw]
 refine wUse 1 nnΓ hU rfl rfl rfl rfl ?_
 ((conv=>whnf);repeat(refine Xg ?_;conv=>whnf))
 have e : List.map (fun b : UInt8 => AV.int IntKind.u8 (b.toNat : Int)) w = encB w := rfl
 rw [e]
 refine grd_mk (app_ok rfl rfl (encB_length _).symm (by rw [encB_length]; simp; omega)) ?_
 ((conv=>whnf);repeat(refine Xg ?_;conv=>whnf))
 exact wxFin (i := 3) rfl rfl (by omega) (by rw [encB_length]; simp; omega) (by rw [← encB_append,List.append_assoc])
set_option maxHeartbeats 16000000
theorem wValue : ∀ (f : Nat) (v : Val),sizeV v ≤ f → okV v → formedV v = true → ∀ s : List UInt8,s.length + 60 * sizeV v ≤ 80000000 → ACalls Tryz.prog [] 99 [.ptr 0 0 0,encV v] (wrM s) 2 (WxQ (s ++ codT v))
 | 0,.mk k n t l,h,_,_,_,_ => by simp [sizeV] at h
 | f + 1,.mk k n t l,h,hv,hf,s,hs => by
  simp only [okV] at hv
  simp only [sizeV] at h hs
  simp only [formedV,Bool.and_eq_true] at hf
  have ht := formed1_name hf.1
  have ih : ∀ v ∈ l,∀ s : List UInt8,s.length + 60 * sizeV v ≤ 80000000 → ACalls Tryz.prog [] 99 [.ptr 0 0 0,encV v] (wrM s) 2 (WxQ (s ++ codT v)) := fun v hm s hs =>
   wValue f v (by have := sizeV_mem hm; omega) (okVs_mem hv.2.2.2.2 v hm) (by cases e : formedV v with | true => rfl | false => rw [formedL_mem hm e] at hf; simp at hf) s hs
  have hI1 := fun s hs => wInt s k hv.1 hs
  have hI2 := fun s hs => wInt s n hv.2.1 hs
  have hI3 := fun s hs => wInt s l.length (i64_nat (by omega)) hs
  have hT := fun s hs => wText s t hs
  have l1 := encInt_len hv.1
  have l2 := encInt_len hv.2.1
  have l3 := encInt_len (i64_nat (n := l.length) (by omega))
  have l4 := uvar_len64 (n := t.length) (by omega)
  have hcode : codT (.mk k n t l) = encInt k ++ (encInt n ++ ((uvar t.length ++ t) ++ (encInt l.length ++ codTs l))) := by simp only [codT]
  rw [hcode]
  clear hcode
  generalize encInt k = w1 at hI1 l1 ⊢
  generalize encInt n = w2 at hI2 l2 ⊢
  generalize encInt l.length = w3 at hI3 l3 ⊢
  obtain ⟨w4,hw4⟩ : ∃ w4,w4 = uvar t.length ++ t := ⟨_,rfl⟩
  rw [← hw4] at hT ⊢
  have l5 : w4.length ≤ 26 := by rw [hw4,List.length_append]; omega
  clear hw4
  have hlen : ((encVs l).length : Int) = l.length := by rw [encVs_length]
  refine acalls_go nnΓ Tryz.func99 rfl ?_
  ((conv=>whnf);repeat(refine Xg ?_;conv=>whnf))
  refine wUse 1 nnΓ (hI1 s (by omega)) rfl rfl rfl rfl ?_
  ((conv=>whnf);repeat(refine Xg ?_;conv=>whnf))
  refine wUse 3 nnΓ (hI2 (s ++ w1) (by simp; omega)) rfl rfl rfl rfl ?_
  ((conv=>whnf);repeat(refine Xg ?_;conv=>whnf))
  refine wUse 4 nnΓ (hT (s ++ w1 ++ w2) (by have : w4.length ≤ 26 := l5; simp; omega)) rfl rfl rfl rfl ?_
  ((conv=>whnf);repeat(refine Xg ?_;conv=>whnf))
  rw [hlen]
  refine wUse 5 nnΓ (hI3 (s ++ w1 ++ w2 ++ w4) (by simp; omega)) rfl rfl rfl rfl ?_
  ((conv=>whnf);repeat(refine Xg ?_;conv=>whnf))
  obtain ⟨p,hp⟩ : ∃ p,p = s ++ w1 ++ w2 ++ w4 ++ w3 := ⟨_,rfl⟩
  rw [show s ++ (w1 ++ (w2 ++ (w4 ++ (w3 ++ codTs l)))) = p ++ codTs l by rw [hp]; simp,← hp]
  have hpl : p.length ≤ s.length + 56 := by rw [hp]; simp; omega
  refine ALoop.at nnΓ (fun k : Nat => k ≤ l.length)
   (fun k => ⟨[(0,.ptr 0 0 0),(24,.il 4 (encVs l)),(25,.int .i64 l.length),(26,.int .i64 k)],[(0,wrC 2 (p ++ codTs (l.take k)).length),(2,.row 5 1 (encB (p ++ codTs (l.take k))))],3,34⟩) (fun k => l.length - k) 0 [(0,0),(6,2)] (by simp)
   (conv_mk _ rfl ⟨⟨0,_,rfl,rfl,wC_cv rfl (by simp [codTs])⟩,⟨6,_,rfl,rfl,.eq (encB_nn _) (by simp [codTs])⟩,trivial⟩ ⟨⟨_,rfl,.ptr 0 0 0 0 rfl⟩,⟨_,rfl,.same _ (.il' (encVs_nn _))⟩,⟨_,rfl,.int hlen⟩,⟨_,rfl,.same _ nn⟩,trivial⟩) ?_
  intro j hj
  ((conv=>whnf);repeat(refine Xg ?_;conv=>whnf))
  refine bcs_mk (fun h => ?_) (fun h => ?_)
  ·have hlt : j < l.length := by simpa using h
   obtain ⟨v1,v2,v3,v4,hm,hg,he,e1⟩ := enc_cases (l := l) (k := j) hlt
   have hih := ih _ hm
   have hpt := codTs_take hlt
   rw [he] at hpt
   have hbound := codTs_len (l.take j) (okVs_take hv.2.2.2.2 _) (formedL_takeT hf.2 _)
   have hsz := sizeL_take_le l (j + 1)
   rw [sizeL_take hlt,he] at hsz
   generalize codT (.mk v1 v2 v3 v4) = pv at hih hpt
   obtain ⟨pl,hpl'⟩ : ∃ pl,pl = codTs (l.take j) := ⟨_,rfl⟩
   rw [← hpl'] at hpt hbound ⊢
   ((conv=>whnf);repeat(refine Xg ?_;conv=>whnf))
   repeat ((first | refine opt_mk e1 ?_ | refine ⟨rfl, ?_⟩); ((conv=>whnf);repeat(refine Xg ?_;conv=>whnf)))
   refine wUse 2 nnΓ (hih (p ++ pl) (by simp; omega)) rfl rfl rfl rfl ?_
   ((conv=>whnf);repeat(refine Xg ?_;conv=>whnf))
   have hnx : p ++ pl ++ pv = p ++ codTs (l.take (j + 1)) := by rw [hpt]; simp
   exact .mk (j + 1) [(0,0),(4,2)] (by omega) (conv_mk _ rfl ⟨⟨0,_,rfl,rfl,wC_cv rfl (by rw [hnx])⟩,⟨4,_,rfl,rfl,.eq (encB_nn _) (by rw [hnx])⟩,trivial⟩ ⟨⟨_,rfl,.ptr 0 0 0 0 rfl⟩,⟨_,rfl,.same _ (.il' (encVs_nn _))⟩,⟨_,rfl,.same _ nn⟩,⟨_,rfl,.w64 (by omega) ⟨by omega,by omega⟩⟩,trivial⟩) (by omega)
  ·have hke : j = l.length := by simp at h; omega
   subst hke
   rw [List.take_length]
   ((conv=>whnf);repeat(refine Xg ?_;conv=>whnf))
   exact wxFin (i := 2) rfl rfl (by omega) rfl rfl
set_option maxHeartbeats 16000000
theorem codI_take {l : List Int} {k : Nat} (h : k < l.length) : codI (l.take (k + 1)) = codI (l.take k) ++ encInt l[k] := by
 have ha : ∀ a b : List Int,codI (a ++ b) = codI a ++ codI b := fun a b => by
  induction a with
  | nil => rfl
  | cons x a ih => simp [codI,ih]
 rw [List.take_succ_eq_append_getElem h,ha]; simp [codI]
theorem codS_take {l : List (List UInt8)} {k : Nat} (h : k < l.length) : codS (l.take (k + 1)) = codS (l.take k) ++ (uvar l[k].length ++ l[k]) := by
 have ha : ∀ a b : List (List UInt8),codS (a ++ b) = codS a ++ codS b := fun a b => by
  induction a with
  | nil => rfl
  | cons x a ih => simp [codS,ih]
 rw [List.take_succ_eq_append_getElem h,ha]; simp [codS]
theorem codI_len : ∀ {l : List Int},(∀ n ∈ l,i64 n) → (codI l).length ≤ 10 * l.length
 | [],_ => by simp [codI]
 | n :: r,h => by
  have := codI_len (l := r) fun m hm => h m (by simp [hm])
  have := encInt_len (h n (by simp))
  simp only [codI,List.length_append,List.length_cons]; omega
theorem codS_len : ∀ {l : List (List UInt8)},(∀ s ∈ l,s.length ≤ 1000) → (codS l).length ≤ 1010 * l.length
 | [],_ => by simp [codS]
 | s :: r,h => by
  have := codS_len (l := r) fun m hm => h m (by simp [hm])
  have h1 := h s (by simp)
  have := uvar_len64 (n := s.length) (by omega)
  simp only [codS,List.length_append,List.length_cons]; omega
structure CodIn (x : Nd) : Prop where
 ok : okN x
 name : x.name.length ≤ 1000
 wlen : x.weights.length ≤ 100000
 llen : x.labels.length ≤ 1000
 lab : ∀ s ∈ x.labels,s.length ≤ 1000
 vals : formedL x.values = true
 vsz : sizeL x.values ≤ 1050000
 klen : x.kids.length ≤ 100000
 val : formedV x.value = true
 size : sizeV x.value ≤ 2000
theorem wNode (x : Nd) (hx : CodIn x) : ACalls Tryz.prog [] 75 [.ptr 0 0 0,encN x] (wrM []) 2 (WxQ (codN x)) := by
 have hc : codN x = encInt x.kind ++ ((uvar x.name.length ++ x.name) ++ (encInt x.lo ++ (encInt x.hi ++ (encInt x.weights.length ++ (codI x.weights ++ (encInt x.labels.length ++ (codS x.labels ++
  (encInt x.values.length ++ (codTs x.values ++ (encInt x.kids.length ++ (codI x.kids ++ codT x.value))))))))))) := rfl
 have hW1 := hx.wlen
 have hW2 := hx.llen
 have hW3 := hx.ok.values
 have hW4 := hx.klen
 have hI1 := fun s hs => wInt s x.kind hx.ok.kind hs
 have hI2 := fun s hs => wText s x.name hs
 have hI3 := fun s hs => wInt s x.lo hx.ok.lo hs
 have hI4 := fun s hs => wInt s x.hi hx.ok.hi hs
 have hI5 := fun s hs => wInt s x.weights.length (i64_nat (by omega)) hs
 have hI6 := fun s hs => wInt s x.labels.length (i64_nat (by omega)) hs
 have hI7 := fun s hs => wInt s x.values.length (i64_nat (by omega)) hs
 have hI8 := fun s hs => wInt s x.kids.length (i64_nat (by omega)) hs
 have hv := fun s => wValue _ x.value (Nat.le_refl _) hx.ok.value hx.val s
 have l1 := encInt_len hx.ok.kind
 have l2 := uvar_len64 (n := x.name.length) (by have := hx.name; omega)
 have l3 := encInt_len hx.ok.lo
 have l4 := encInt_len hx.ok.hi
 have l5 := encInt_len (i64_nat (n := x.weights.length) (by omega))
 have l6 := encInt_len (i64_nat (n := x.labels.length) (by omega))
 have l7 := encInt_len (i64_nat (n := x.values.length) (by omega))
 have l8 := encInt_len (i64_nat (n := x.kids.length) (by omega))
 have b1 := codI_len hx.ok.weightsI
 have b2 := codS_len hx.lab
 have b3 := codTs_len x.values (okVs_ofmem fun v hv => (hx.ok.valuesI v hv).1) hx.vals
 have b4 := codI_len hx.ok.kidsI
 have b5 := codT_len x.value hx.ok.value hx.val
 have hsz := hx.size
 have hvsz := hx.vsz
 have hnm := hx.name
 obtain ⟨kind,name,lo,hi',ws,lbs,vals,kids,v⟩ := x
 simp only at *
 rw [hc]
 clear hc
 generalize encInt kind = w1 at hI1 l1 ⊢
 obtain ⟨w2,hw2⟩ : ∃ w,w = uvar name.length ++ name := ⟨_,rfl⟩
 rw [← hw2] at hI2 ⊢
 have l2' : w2.length ≤ 1010 := by rw [hw2,List.length_append]; omega
 clear hw2
 generalize encInt lo = w3 at hI3 l3 ⊢
 generalize encInt hi' = w4 at hI4 l4 ⊢
 generalize encInt ws.length = w5 at hI5 l5 ⊢
 generalize encInt lbs.length = w6 at hI6 l6 ⊢
 generalize encInt vals.length = w7 at hI7 l7 ⊢
 generalize encInt kids.length = w8 at hI8 l8 ⊢
 obtain ⟨vk,vn,vs,vks⟩ := v
 refine acalls_go nnΓ Tryz.func75 rfl ?_
 ((conv=>whnf);repeat(refine Xg ?_;conv=>whnf))
 refine wUse 1 nnΓ (hI1 [] (by simp)) rfl rfl rfl rfl ?_
 ((conv=>whnf);repeat(refine Xg ?_;conv=>whnf))
 refine wUse 3 nnΓ (hI2 _ (by simp; omega)) rfl rfl rfl rfl ?_
 ((conv=>whnf);repeat(refine Xg ?_;conv=>whnf))
 refine wUse 4 nnΓ (hI3 _ (by simp; omega)) rfl rfl rfl rfl ?_
 ((conv=>whnf);repeat(refine Xg ?_;conv=>whnf))
 refine wUse 5 nnΓ (hI4 _ (by simp; omega)) rfl rfl rfl rfl ?_
 ((conv=>whnf);repeat(refine Xg ?_;conv=>whnf))
 rw [encI_length ws]
 refine wUse 6 nnΓ (hI5 _ (by simp; omega)) rfl rfl rfl rfl ?_
 ((conv=>whnf);repeat(refine Xg ?_;conv=>whnf))
 obtain ⟨p,hp⟩ : ∃ q,q = [] ++ w1 ++ w2 ++ w3 ++ w4 ++ w5 := ⟨_,rfl⟩
 have lp : p.length = ([] ++ w1 ++ w2 ++ w3 ++ w4 ++ w5).length := by rw [hp]
 simp only [List.length_append,List.length_nil] at lp
 rw [← hp]
 refine ALoop.at nnΓ (fun k : Nat => k ≤ ws.length)
  (fun k => ⟨[(0,.ptr 0 0 0),(3,.ptr 3 0 0),(34,.il 1 (encI ws)),(35,.int .i64 ws.length),(36,.int .i64 k)],[(0,wrC 2 (p ++ codI (ws.take k)).length),(3,.row 35 12 [encN ⟨kind,name,lo,hi',ws,lbs,vals,kids,.mk vk vn vs vks⟩]),(2,.row 5 1 (encB (p ++ codI (ws.take k))))],4,96⟩) (fun k => ws.length - k) 0 [(0,0),(2,3),(7,2)] (by simp)
  (conv_mk _ rfl ⟨⟨0,_,rfl,rfl,wC_cv rfl (by simp [codI])⟩,⟨2,_,rfl,rfl,.same (.cons (encN_nn _) .nil)⟩,⟨7,_,rfl,rfl,.eq (encB_nn _) (by simp [codI])⟩,trivial⟩ ⟨⟨_,rfl,.ptr 0 0 0 0 rfl⟩,⟨_,rfl,.ptr 2 3 0 0 rfl⟩,⟨_,rfl,.same _ (.il' (encI_nn _))⟩,⟨_,rfl,.int (by rw [encI_length])⟩,⟨_,rfl,.same _ nn⟩,trivial⟩) ?_
 intro j hj
 ((conv=>whnf);repeat(refine Xg ?_;conv=>whnf))
 refine bcs_mk (fun h => ?_) (fun h => ?_)
 ·have hlt : j < ws.length := by simpa using h
  have e1 : (encI ws)[((j : Nat) : Int).toNat]? = some (.int .i64 ws[j]) := by simp [encI_get,List.getElem?_eq_getElem hlt]
  have hpt := codI_take hlt
  have hb := codI_len (l := ws.take j) fun n hn => hx.ok.weightsI n (List.mem_of_mem_take hn)
  have htl : (ws.take j).length = j := by rw [List.length_take]; omega
  have hwI := fun s hs => wInt s ws[j] (hx.ok.weightsI _ (List.getElem_mem hlt)) hs
  generalize ws[j] = n at e1 hpt hwI
  generalize encInt n = pv at hpt hwI
  obtain ⟨pl,hpl⟩ : ∃ pl,pl = codI (ws.take j) := ⟨_,rfl⟩
  rw [← hpl] at hpt hb ⊢
  ((conv=>whnf);repeat(refine Xg ?_;conv=>whnf))
  repeat ((first | refine opt_mk e1 ?_ | refine ⟨rfl, ?_⟩); ((conv=>whnf);repeat(refine Xg ?_;conv=>whnf)))
  refine wUse 2 nnΓ (hwI (p ++ pl) (by rw [List.length_append]; omega)) rfl rfl rfl rfl ?_
  ((conv=>whnf);repeat(refine Xg ?_;conv=>whnf))
  have hnx : p ++ pl ++ pv = p ++ codI (ws.take (j + 1)) := by rw [hpt]; simp
  exact .mk (j + 1) [(0,0),(3,3),(4,2)] (by omega) (conv_mk _ rfl ⟨⟨0,_,rfl,rfl,wC_cv rfl (by rw [hnx])⟩,⟨3,_,rfl,rfl,.same (.cons (encN_nn _) .nil)⟩,⟨4,_,rfl,rfl,.eq (encB_nn _) (by rw [hnx])⟩,trivial⟩ ⟨⟨_,rfl,.ptr 0 0 0 0 rfl⟩,⟨_,rfl,.ptr 3 3 0 0 rfl⟩,⟨_,rfl,.same _ (.il' (encI_nn _))⟩,⟨_,rfl,.same _ nn⟩,⟨_,rfl,.w64 (by omega) ⟨by omega,by omega⟩⟩,trivial⟩) (by omega)
 ·have hke : j = ws.length := by simp at h; omega
  subst hke
  rw [List.take_length]
  ((conv=>whnf);repeat(refine Xg ?_;conv=>whnf))
  rw [encS_length lbs]
  refine wUse 2 nnΓ (hI6 (p ++ codI ws) (by rw [List.length_append]; omega)) rfl rfl rfl rfl ?_
  ((conv=>whnf);repeat(refine Xg ?_;conv=>whnf))
  obtain ⟨p2,hp2⟩ : ∃ q,q = p ++ codI ws ++ w6 := ⟨_,rfl⟩
  have lp2 : p2.length = (p ++ codI ws ++ w6).length := by rw [hp2]
  simp only [List.length_append,List.length_nil] at lp2
  rw [← hp2]
  refine ALoop.at nnΓ (fun k : Nat => k ≤ lbs.length)
   (fun k => ⟨[(0,.ptr 0 0 0),(3,.ptr 3 0 0),(50,.il 1 (encS lbs)),(51,.int .i64 lbs.length),(52,.int .i64 k)],[(0,wrC 2 (p2 ++ codS (lbs.take k)).length),(3,.row 35 12 [encN ⟨kind,name,lo,hi',ws,lbs,vals,kids,.mk vk vn vs vks⟩]),(2,.row 5 1 (encB (p2 ++ codS (lbs.take k))))],4,96⟩) (fun k => lbs.length - k) 0 [(0,0),(3,3),(4,2)] (by simp)
   (conv_mk _ rfl ⟨⟨0,_,rfl,rfl,wC_cv rfl (by simp [codS])⟩,⟨3,_,rfl,rfl,.same (.cons (encN_nn _) .nil)⟩,⟨4,_,rfl,rfl,.eq (encB_nn _) (by simp [codS])⟩,trivial⟩ ⟨⟨_,rfl,.ptr 0 0 0 0 rfl⟩,⟨_,rfl,.ptr 3 3 0 0 rfl⟩,⟨_,rfl,.same _ (.il' (encS_nn _))⟩,⟨_,rfl,.int (by rw [encS_length])⟩,⟨_,rfl,.same _ nn⟩,trivial⟩) ?_
  intro j hj
  ((conv=>whnf);repeat(refine Xg ?_;conv=>whnf))
  refine bcs_mk (fun h => ?_) (fun h => ?_)
  ·have hlt : j < lbs.length := by simpa using h
   have e1 : (encS lbs)[((j : Nat) : Int).toNat]? = some (.str lbs[j]) := by simp [encS_get,List.getElem?_eq_getElem hlt]
   have hpt := codS_take hlt
   have hb := codS_len (l := lbs.take j) fun n hn => hx.lab n (List.mem_of_mem_take hn)
   have htl : (lbs.take j).length = j := by rw [List.length_take]; omega
   have hsl := hx.lab _ (List.getElem_mem hlt)
   have hwI := fun s => wText s (lbs[j]'hlt)
   generalize lbs[j] = n at e1 hpt hwI hsl
   obtain ⟨pv,hpv⟩ : ∃ pv,pv = uvar n.length ++ n := ⟨_,rfl⟩
   rw [← hpv] at hpt hwI
   obtain ⟨pl,hpl⟩ : ∃ pl,pl = codS (lbs.take j) := ⟨_,rfl⟩
   rw [← hpl] at hpt hb ⊢
   ((conv=>whnf);repeat(refine Xg ?_;conv=>whnf))
   repeat ((first | refine opt_mk e1 ?_ | refine ⟨rfl, ?_⟩); ((conv=>whnf);repeat(refine Xg ?_;conv=>whnf)))
   refine wUse 2 nnΓ (hwI (p2 ++ pl) (by rw [List.length_append]; omega)) rfl rfl rfl rfl ?_
   ((conv=>whnf);repeat(refine Xg ?_;conv=>whnf))
   have hnx : p2 ++ pl ++ pv = p2 ++ codS (lbs.take (j + 1)) := by rw [hpt]; simp
   exact .mk (j + 1) [(0,0),(3,3),(4,2)] (by omega) (conv_mk _ rfl ⟨⟨0,_,rfl,rfl,wC_cv rfl (by rw [hnx])⟩,⟨3,_,rfl,rfl,.same (.cons (encN_nn _) .nil)⟩,⟨4,_,rfl,rfl,.eq (encB_nn _) (by rw [hnx])⟩,trivial⟩ ⟨⟨_,rfl,.ptr 0 0 0 0 rfl⟩,⟨_,rfl,.ptr 3 3 0 0 rfl⟩,⟨_,rfl,.same _ (.il' (encS_nn _))⟩,⟨_,rfl,.same _ nn⟩,⟨_,rfl,.w64 (by omega) ⟨by omega,by omega⟩⟩,trivial⟩) (by omega)
  ·have hke : j = lbs.length := by simp at h; omega
   subst hke
   rw [List.take_length]
   ((conv=>whnf);repeat(refine Xg ?_;conv=>whnf))
   rw [encVs_length vals]
   refine wUse 2 nnΓ (hI7 (p2 ++ codS lbs) (by rw [List.length_append]; omega)) rfl rfl rfl rfl ?_
   ((conv=>whnf);repeat(refine Xg ?_;conv=>whnf))
   obtain ⟨p3,hp3⟩ : ∃ q,q = p2 ++ codS lbs ++ w7 := ⟨_,rfl⟩
   have lp3 : p3.length = (p2 ++ codS lbs ++ w7).length := by rw [hp3]
   simp only [List.length_append,List.length_nil] at lp3
   rw [← hp3]
   refine ALoop.at nnΓ (fun k : Nat => k ≤ vals.length)
    (fun k => ⟨[(0,.ptr 0 0 0),(3,.ptr 3 0 0),(66,.il 4 (encVs vals)),(67,.int .i64 vals.length),(68,.int .i64 k)],[(0,wrC 2 (p3 ++ codTs (vals.take k)).length),(3,.row 35 12 [encN ⟨kind,name,lo,hi',ws,lbs,vals,kids,.mk vk vn vs vks⟩]),(2,.row 5 1 (encB (p3 ++ codTs (vals.take k))))],4,96⟩) (fun k => vals.length - k) 0 [(0,0),(3,3),(4,2)] (by simp)
    (conv_mk _ rfl ⟨⟨0,_,rfl,rfl,wC_cv rfl (by simp [codTs])⟩,⟨3,_,rfl,rfl,.same (.cons (encN_nn _) .nil)⟩,⟨4,_,rfl,rfl,.eq (encB_nn _) (by simp [codTs])⟩,trivial⟩ ⟨⟨_,rfl,.ptr 0 0 0 0 rfl⟩,⟨_,rfl,.ptr 3 3 0 0 rfl⟩,⟨_,rfl,.same _ (.il' (encVs_nn _))⟩,⟨_,rfl,.int (by rw [encVs_length])⟩,⟨_,rfl,.same _ nn⟩,trivial⟩) ?_
   intro j hj
   ((conv=>whnf);repeat(refine Xg ?_;conv=>whnf))
   refine bcs_mk (fun h => ?_) (fun h => ?_)
   ·have hlt : j < vals.length := by simpa using h
    obtain ⟨v1,v2,v3,v4,hm,hg,he,e1⟩ := enc_cases (l := vals) (k := j) hlt
    have hih := wValue _ _ (Nat.le_refl _) (hx.ok.valuesI _ hm).1 (by cases e : formedV (.mk v1 v2 v3 v4) with | true => rfl | false => have := formedL_mem hm e; have h2 := hx.vals; simp only at h2; rw [this] at h2; cases h2)
    have hpt := codTs_take hlt
    rw [he] at hpt
    have hb := codTs_len (vals.take j) (okVs_take (okVs_ofmem fun v hv => (hx.ok.valuesI v hv).1) _) (formedL_takeT hx.vals _)
    have hsz2 := sizeL_take_le vals (j + 1)
    rw [sizeL_take hlt,he] at hsz2
    generalize codT (.mk v1 v2 v3 v4) = pv at hih hpt
    obtain ⟨pl,hpl⟩ : ∃ pl,pl = codTs (vals.take j) := ⟨_,rfl⟩
    rw [← hpl] at hpt hb ⊢
    ((conv=>whnf);repeat(refine Xg ?_;conv=>whnf))
    repeat ((first | refine opt_mk e1 ?_ | refine ⟨rfl, ?_⟩); ((conv=>whnf);repeat(refine Xg ?_;conv=>whnf)))
    refine wUse 2 nnΓ (hih (p3 ++ pl) (by rw [List.length_append]; omega)) rfl rfl rfl rfl ?_
    ((conv=>whnf);repeat(refine Xg ?_;conv=>whnf))
    have hnx : p3 ++ pl ++ pv = p3 ++ codTs (vals.take (j + 1)) := by rw [hpt]; simp
    exact .mk (j + 1) [(0,0),(3,3),(5,2)] (by omega) (conv_mk _ rfl ⟨⟨0,_,rfl,rfl,wC_cv rfl (by rw [hnx])⟩,⟨3,_,rfl,rfl,.same (.cons (encN_nn _) .nil)⟩,⟨5,_,rfl,rfl,.eq (encB_nn _) (by rw [hnx])⟩,trivial⟩ ⟨⟨_,rfl,.ptr 0 0 0 0 rfl⟩,⟨_,rfl,.ptr 3 3 0 0 rfl⟩,⟨_,rfl,.same _ (.il' (encVs_nn _))⟩,⟨_,rfl,.same _ nn⟩,⟨_,rfl,.w64 (by omega) ⟨by omega,by omega⟩⟩,trivial⟩) (by omega)
   ·have hke : j = vals.length := by simp at h; omega
    subst hke
    rw [List.take_length]
    ((conv=>whnf);repeat(refine Xg ?_;conv=>whnf))
    rw [encI_length kids]
    refine wUse 2 nnΓ (hI8 (p3 ++ codTs vals) (by rw [List.length_append]; omega)) rfl rfl rfl rfl ?_
    ((conv=>whnf);repeat(refine Xg ?_;conv=>whnf))
    obtain ⟨p4,hp4⟩ : ∃ q,q = p3 ++ codTs vals ++ w8 := ⟨_,rfl⟩
    have lp4 : p4.length = (p3 ++ codTs vals ++ w8).length := by rw [hp4]
    simp only [List.length_append,List.length_nil] at lp4
    rw [← hp4]
    refine ALoop.at nnΓ (fun k : Nat => k ≤ kids.length)
     (fun k => ⟨[(0,.ptr 0 0 0),(3,.ptr 3 0 0),(82,.il 1 (encI kids)),(83,.int .i64 kids.length),(84,.int .i64 k)],[(0,wrC 2 (p4 ++ codI (kids.take k)).length),(3,.row 35 12 [encN ⟨kind,name,lo,hi',ws,lbs,vals,kids,.mk vk vn vs vks⟩]),(2,.row 5 1 (encB (p4 ++ codI (kids.take k))))],4,96⟩) (fun k => kids.length - k) 0 [(0,0),(3,3),(4,2)] (by simp)
     (conv_mk _ rfl ⟨⟨0,_,rfl,rfl,wC_cv rfl (by simp [codI])⟩,⟨3,_,rfl,rfl,.same (.cons (encN_nn _) .nil)⟩,⟨4,_,rfl,rfl,.eq (encB_nn _) (by simp [codI])⟩,trivial⟩ ⟨⟨_,rfl,.ptr 0 0 0 0 rfl⟩,⟨_,rfl,.ptr 3 3 0 0 rfl⟩,⟨_,rfl,.same _ (.il' (encI_nn _))⟩,⟨_,rfl,.int (by rw [encI_length])⟩,⟨_,rfl,.same _ nn⟩,trivial⟩) ?_
    intro j hj
    ((conv=>whnf);repeat(refine Xg ?_;conv=>whnf))
    refine bcs_mk (fun h => ?_) (fun h => ?_)
    ·have hlt : j < kids.length := by simpa using h
     have e1 : (encI kids)[((j : Nat) : Int).toNat]? = some (.int .i64 kids[j]) := by simp [encI_get,List.getElem?_eq_getElem hlt]
     have hpt := codI_take hlt
     have hb := codI_len (l := kids.take j) fun n hn => hx.ok.kidsI n (List.mem_of_mem_take hn)
     have htl : (kids.take j).length = j := by rw [List.length_take]; omega
     have hwI := fun s hs => wInt s kids[j] (hx.ok.kidsI _ (List.getElem_mem hlt)) hs
     generalize kids[j] = n at e1 hpt hwI
     generalize encInt n = pv at hpt hwI
     obtain ⟨pl,hpl⟩ : ∃ pl,pl = codI (kids.take j) := ⟨_,rfl⟩
     rw [← hpl] at hpt hb ⊢
     ((conv=>whnf);repeat(refine Xg ?_;conv=>whnf))
     repeat ((first | refine opt_mk e1 ?_ | refine ⟨rfl, ?_⟩); ((conv=>whnf);repeat(refine Xg ?_;conv=>whnf)))
     refine wUse 2 nnΓ (hwI (p4 ++ pl) (by rw [List.length_append]; omega)) rfl rfl rfl rfl ?_
     ((conv=>whnf);repeat(refine Xg ?_;conv=>whnf))
     have hnx : p4 ++ pl ++ pv = p4 ++ codI (kids.take (j + 1)) := by rw [hpt]; simp
     exact .mk (j + 1) [(0,0),(3,3),(4,2)] (by omega) (conv_mk _ rfl ⟨⟨0,_,rfl,rfl,wC_cv rfl (by rw [hnx])⟩,⟨3,_,rfl,rfl,.same (.cons (encN_nn _) .nil)⟩,⟨4,_,rfl,rfl,.eq (encB_nn _) (by rw [hnx])⟩,trivial⟩ ⟨⟨_,rfl,.ptr 0 0 0 0 rfl⟩,⟨_,rfl,.ptr 3 3 0 0 rfl⟩,⟨_,rfl,.same _ (.il' (encI_nn _))⟩,⟨_,rfl,.same _ nn⟩,⟨_,rfl,.w64 (by omega) ⟨by omega,by omega⟩⟩,trivial⟩) (by omega)
    ·have hke : j = kids.length := by simp at h; omega
     subst hke
     rw [List.take_length]
     ((conv=>whnf);repeat(refine Xg ?_;conv=>whnf))
     have e : w1 ++ (w2 ++ (w3 ++ (w4 ++ (w5 ++ (codI ws ++ (w6 ++ (codS lbs ++ (w7 ++ (codTs vals ++ (w8 ++ (codI kids ++ codT (.mk vk vn vs vks)))))))))))) = p4 ++ codI kids ++ codT (.mk vk vn vs vks) := by
      rw [hp4,hp3,hp2,hp]; simp
     rw [e]
     generalize codT (.mk vk vn vs vks) = wv at hv b5 ⊢
     refine wUse 2 nnΓ (hv (p4 ++ codI kids) (by rw [List.length_append]; omega)) rfl rfl rfl rfl ?_
     ((conv=>whnf);repeat(refine Xg ?_;conv=>whnf))
     exact wxFin (i := 4) rfl rfl (by omega) rfl rfl
set_option maxHeartbeats 16000000
theorem wDone31 (s : List UInt8) (hs : s.length ≤ 90000000) : ACalls Tryz.prog [] 76 [.ptr 0 0 0] (wrM s) 2 fun r m n => r = .il 1 (encB s) ∧ m = [] ∧ n = 2 := by
 refine acalls_go nnΓ Tryz.func76 rfl ?_
 ((conv=>whnf);repeat(refine Xg ?_;conv=>whnf))
 have lT := encB_length s
 have eT : List.take s.length (List.drop 0 (encB s)) = encB s := by rw [List.drop_zero,List.take_of_length_le (by rw [lT]; omega)]
 refine grd_mk (src_ok (by rw [lT]; omega)) ?_
 rw [eT]
 ((conv=>whnf);repeat(refine Xg ?_;conv=>whnf))
 refine grd_mk (app_ok rfl rfl rfl (by rw [lT]; simp; omega)) ?_
 ((conv=>whnf);repeat(refine Xg ?_;conv=>whnf))
 exact fin_mk (r' := .il 1 (encB s)) (m' := []) (n' := 2) [] rfl trivial (.fz' rfl rfl (by simp) (by simp) (encB_nn _)) ⟨rfl,rfl,rfl⟩
theorem codN_len {x : Nd} (hx : CodIn x) : (codN x).length ≤ 80000000 := by
 have l1 := encInt_len hx.ok.kind
 have l2 := uvar_len64 (n := x.name.length) (by have := hx.name; omega)
 have l3 := encInt_len hx.ok.lo
 have l4 := encInt_len hx.ok.hi
 have hW1 := hx.wlen
 have hW2 := hx.llen
 have hW3 := hx.ok.values
 have hW4 := hx.klen
 have l5 := encInt_len (i64_nat (n := x.weights.length) (by omega))
 have l6 := encInt_len (i64_nat (n := x.labels.length) (by omega))
 have l7 := encInt_len (i64_nat (n := x.values.length) (by omega))
 have l8 := encInt_len (i64_nat (n := x.kids.length) (by omega))
 have b1 := codI_len hx.ok.weightsI
 have b2 := codS_len hx.lab
 have b3 := codTs_len x.values (okVs_ofmem fun v hv => (hx.ok.valuesI v hv).1) hx.vals
 have b4 := codI_len hx.ok.kidsI
 have b5 := codT_len x.value hx.ok.value hx.val
 have hsz := hx.size
 have hvsz := hx.vsz
 have hnm := hx.name
 unfold codN
 simp only [List.length_append]
 omega
theorem tEncodeNode (x : Nd) (hx : CodIn x) : PureC Tryz.prog [] 43 [encN x] (.il 1 (encB (codN x))) := by
 have hN := wNode x hx
 have hl := codN_len hx
 generalize codN x = w at hN hl ⊢
 have hxn := encN_nn x
 obtain ⟨kind,name,lo,hi',ws,lbs,vals,kids,⟨vk,vn,vs,vks⟩⟩ := x
 refine acalls_go nnΓ Tryz.func43 rfl ?_
 ((conv=>whnf);repeat(refine Xg ?_;conv=>whnf))
 refine ACalls.ph 5 1 ?_
 refine ACalls.useN nnΓ [(1,0),(2,1)] hN rfl (.cons (.ptr 1 0 0 0 rfl) (.same (.cons hxn .nil))) ⟨⟨1,_,rfl,rfl,.cons (.agg (.cons (.nslk 2 1 _ rfl rfl) .nil)) .nil⟩,⟨2,_,rfl,rfl,.same .nil⟩,trivial⟩ rfl ?_
 rintro r m n ⟨rfl,rfl,rfl⟩
 refine ⟨[(0,1),(2,3)],_,[(1,wrC 3 w.length),(3,.row 5 1 (encB w))],4,.same _ nn,⟨⟨0,_,rfl,rfl,wC_cv rfl rfl⟩,⟨2,_,rfl,rfl,.same (encB_nn _)⟩,trivial⟩,rfl, ?_⟩
 ((conv=>whnf);repeat(refine Xg ?_;conv=>whnf))
 refine ACalls.useN nnΓ [(1,0),(3,1)] (wDone31 w (by omega)) rfl (.cons (.ptr 1 0 0 0 rfl) .nil) ⟨⟨1,_,rfl,rfl,wC_cv rfl rfl⟩,⟨3,_,rfl,rfl,.same (encB_nn _)⟩,trivial⟩ rfl ?_
 rintro r m n ⟨rfl,rfl,rfl⟩
 refine ⟨[],_,[],4,.same _ (.il' (encB_nn _)),trivial,rfl, ?_⟩
 ((conv=>whnf);repeat(refine Xg ?_;conv=>whnf))
 exact fin_pure (.il' (encB_nn _)) ⟨rfl,rfl,rfl⟩
def knE : List Nd → Nat → List (AV × AV)
 | [],_ => []
 | y :: r,i => (.str (codN y),.int .i64 i) :: knE r (i + 1)
theorem keyS (a b : List UInt8) : aKeyEq Tryz.prog 9 (.str a) (.str b) = some (decide (b = a)) := by
 have e : aKeyEq Tryz.prog 9 (.str a) (.str b) = some (a == b) := rfl
 rw [e]
 congr 1
 rw [Bool.eq_iff_iff,beq_iff_eq,decide_eq_true_eq]
 exact eq_comm
theorem findS_some {x : Nd} : ∀ (T : List Nd) (off i q : Nat),idxN T x = some q → aFindM Tryz.prog 9 (.str (codN x)) (knE T off) i = some (some (i + q,.int .i64 ((off + q : Nat) : Int)))
 | [],off,i,q,h => by simp [idxN] at h
 | y :: r,off,i,q,h => by
  simp only [knE,aFindM,keyS]
  unfold idxN at h
  rw [List.findIdx?_cons] at h
  cases e : decide (codN y = codN x) with
  | true =>
   rw [e] at h
   simp at h
   subst h
   simp
  | false =>
   rw [e] at h
   simp only [Bool.false_eq_true,if_false] at h
   cases e2 : List.findIdx? (fun y => decide (codN y = codN x)) r with
   | none => rw [e2] at h; simp at h
   | some q2 =>
    rw [e2] at h
    simp at h
    subst h
    have := findS_some r (off + 1) (i + 1) q2 e2
    simp only [this]
    rw [show i + 1 + q2 = i + (q2 + 1) by omega,show off + 1 + q2 = off + (q2 + 1) by omega]
theorem findS_none {x : Nd} : ∀ (T : List Nd) (off i : Nat),idxN T x = none → aFindM Tryz.prog 9 (.str (codN x)) (knE T off) i = some none
 | [],off,i,h => rfl
 | y :: r,off,i,h => by
  simp only [knE,aFindM,keyS]
  unfold idxN at h
  rw [List.findIdx?_cons] at h
  cases e : decide (codN y = codN x) with
  | true => rw [e] at h; simp at h
  | false =>
   rw [e] at h
   simp only [Bool.false_eq_true,if_false] at h
   exact findS_none r (off + 1) (i + 1) (by unfold idxN; cases e2 : List.findIdx? (fun y => decide (codN y = codN x)) r with | none => rfl | some q => rw [e2] at h; simp at h)
theorem knE_snoc : ∀ (T : List Nd) (x : Nd) (off : Nat),knE (T ++ [x]) off = knE T off ++ [(.str (codN x),.int .i64 ((off + T.length : Nat) : Int))]
 | [],x,off => by simp [knE]
 | y :: r,x,off => by
  simp only [List.cons_append,knE,knE_snoc r x (off + 1),List.length_cons]
  rw [show off + 1 + r.length = off + (r.length + 1) by omega]
theorem lookS_some {mem : Mem} {id : Nat} {T : List Nd} {x : Nd} {q : Nat} (hm : lk mem id = some (.mapb (knE T 0))) (h : idxN T x = some q) : aLookup Tryz.prog mem 86 (.mp id) (.str (codN x)) true = some (.tup [.int .i64 q,.bool true]) := by
 have key := findS_some T 0 0 q h
 rw [Nat.zero_add] at key
 have u : Tryz.prog.underlying 86 = some (.map 9 3) := rfl
 have ak : aKey Tryz.prog 9 (.str (codN x)) = true := rfl
 unfold aLookup
 simp only [u,ak,hm,key]
theorem lookS_none {mem : Mem} {id : Nat} {T : List Nd} {x : Nd} (hm : lk mem id = some (.mapb (knE T 0))) (h : idxN T x = none) : aLookup Tryz.prog mem 86 (.mp id) (.str (codN x)) true = some (.tup [.int .i64 0,.bool false]) := by
 have key := findS_none T 0 0 h
 have u : Tryz.prog.underlying 86 = some (.map 9 3) := rfl
 have ak : aKey Tryz.prog 9 (.str (codN x)) = true := rfl
 have z : zeroAV Tryz.prog 3 = some (.int .i64 0) := rfl
 unfold aLookup
 simp only [u,ak,hm,key,z]
theorem kn_cv {mem : Mem} {σ : List (Nat × Nat)} : ∀ (T : List Nd) (off : Nat),CvP mem σ (knE T off) (knE T off) := fun T off => ⟨rfl,fun i e e' h1 h2 => by
 rw [h1] at h2
 cases h2
 have : ∀ (T : List Nd) (off i : Nat),(knE T off)[i]? = some e → Cv mem σ e.1 e.1 ∧ Cv mem σ e.2 e.2 := by
  intro T
  induction T with
  | nil => intro off i h; cases h
  | cons y r ih =>
   intro off i h
   cases i with
   | zero => cases h; exact ⟨.same _ nn,.same _ nn⟩
   | succ i => exact ih (off + 1) i h
 exact this T off i h1⟩
theorem sizeL_le {c : Nat} : ∀ l : List Val,(∀ v ∈ l,sizeV v ≤ c) → sizeL l ≤ l.length * c
 | [],_ => by simp [sizeL]
 | a :: r,h => by
  have h1 := h a (by simp)
  have h2 := sizeL_le r fun v hv => h v (by simp [hv])
  simp only [sizeL,List.length_cons,Nat.add_mul]
  omega
theorem formedL_all : ∀ l : List Val,(∀ v ∈ l,formedV v = true) → formedL l = true
 | [],_ => rfl
 | a :: r,h => by
  simp only [formedL,h a (by simp),formedL_all r fun v hv => h v (by simp [hv]),Bool.and_self]
theorem validV_formed {v : Val} (h : validV v = 0) : formedV v = true := by
 unfold validV at h
 split at h
 ·omega
 ·rename_i h1; simpa using h1
theorem zeroV_formed {v : Val} (h : zeroV v = true) : formedV v = true := by
 obtain ⟨k,n,s,ks⟩ := v
 simp only [zeroV,Bool.and_eq_true,decide_eq_true_eq] at h
 obtain ⟨⟨⟨rfl,rfl⟩,h1⟩,h2⟩ := h
 have : ks = [] := List.length_eq_zero_iff.1 h2
 subst this
 have : s = [] := by simpa using h1
 subst this
 rfl
theorem codIn_kids {A : List Nd} (h : TreeOK A) {x : Nd} (hx : x ∈ A) {p : List Int} (ho : okN (withKids x p)) : CodIn (withKids x p) := by
 obtain ⟨j,hj⟩ := List.getElem?_of_mem hx
 have hB := genB_tree h x hx
 have hn := valid_node A h.valid j x hj
 have hf := nodeE_formed hn
 have hfe : firstE (ownN x) = 0 := by
  unfold nodeE at hn
  rw [if_neg (by rw [hf]; simp)] at hn
  split at hn
  ·rename_i h1; exact absurd hn h1
  ·rename_i h1; exact Decidable.not_not.1 h1
 have hv := firstE_zero hfe
 unfold formedN at hf
 simp only [Bool.and_eq_true] at hf
 obtain ⟨⟨⟨⟨⟨⟨hu,hkd⟩,hki⟩,h2⟩,h3⟩,h4⟩,h5⟩ := hf
 unfold unusedN at hu
 simp only [Bool.and_eq_true,Bool.or_eq_true,decide_eq_true_eq] at hu h3
 have hcap : ∀ s : List UInt8,capital s = true → s.length ≤ 16 := by
  intro s hs
  cases s with
  | nil => simp
  | cons c r => simp only [capital,Bool.and_eq_true,decide_eq_true_eq] at hs; simp; omega
 have hvals : ∀ v ∈ x.values,validV v = 0 := fun v hm => hv v (by unfold ownN; exact List.mem_append_right _ hm)
 refine ⟨ho, ?_,by have := hB.wlen; simp only [withKids]; omega,by have := hB.llen; simp only [withKids]; omega,fun s hs => ?_,formedL_all _ fun v hm => validV_formed (hvals v hm), ?_, ?_, ?_,by have := hB.val; simp only [withKids]; omega⟩
 ·simp only [withKids]
  by_cases hk : x.kind = 3
  ·rcases h3 with h3 | h3
   ·exact absurd hk h3
   ·rcases h3.2 with e | e
    ·rw [e]; simp
    ·have := hcap _ e.1; omega
  ·rcases hu.1.1.1.2 with e | e
   ·exact absurd e hk
   ·rw [e]; simp
 ·have := hB.lab s hs
  simp [abcd] at this
  rcases this with rfl | rfl | rfl | rfl <;> simp
 ·have h1 := sizeL_le x.values hB.vals
  have h2 := hB.vlen
  have h3 : x.values.length * 1024 ≤ 1024 * 1024 := Nat.mul_le_mul_right _ h2
  simp only [withKids]
  omega
 ·have := hB.klen
  simp only [withKids,List.length_map]
  omega
 ·simp only [withKids]
  rcases hu.1.1.1.1.1 with e | e
  ·exact validV_formed (hv _ (by unfold ownN; rw [if_pos e]; simp))
  ·exact zeroV_formed e
set_option maxHeartbeats 16000000
set_option linter.unusedSimpArgs false
theorem bAt_get {r : List Bool} {i : Nat} (h : i < r.length) : (encBs r)[0 + ((i : Nat) : Int).toNat]? = some (.bool (bAt r i)) := by
 rw [Int.toNat_natCast,Nat.zero_add,encBs_get,List.getElem?_eq_getElem h]
 unfold bAt
 rw [List.getD_eq_getElem?_getD,List.getElem?_eq_getElem h]; rfl
theorem encBs_set (r : List Bool) (i : Nat) (b : Bool) : (encBs r).set i (.bool b) = encBs (r.set i b) := by
 unfold encBs; rw [List.map_set]
theorem tTrim (A : List Nd) (hT : TreeOK A) (hl : A.length ≤ 1000) : PureC Tryz.prog [] 20 [.agg [.il 12 (encNs A)]] (.agg [.il 12 (encNs (trimT A))]) := by
 have hB := genB_tree hT
 have hv := hT.valid
 have hok : ∀ x ∈ A,okN x := fun x hx => (hB x hx).ok
 have hV : ValIn A := ⟨hok,fun x hx => by have := (hB x hx).val; omega,fun x hx v hv => by have := (hB x hx).vals v hv; omega,fun x hx => by have := (hB x hx).vlen; omega,fun x hx => by have := (hB x hx).klen; omega⟩
 have hvt : validT A = 0 := by unfold validT; rw [if_neg (by omega),hv]
 have hVal := tValid A hV
 rw [hvt] at hVal
 have hKI := kidsIn_of hv
 obtain ⟨hRP,hTP⟩ := trimT_P hv hok (by omega)
 refine acalls_go nnΓ Tryz.func20 rfl ?_
 ((conv=>whnf);repeat(refine Xg ?_;conv=>whnf))
 refine hVal.go ?_ (.cons (tree_nn A) .nil) nn
 ((conv=>whnf);repeat(refine Xg ?_;conv=>whnf))
 rw [encNs_length]
 refine grd_mk (mk_ok rfl rfl rfl (by omega) rfl) ?_
 ((conv=>whnf);repeat(refine Xg ?_;conv=>whnf))
 obtain ⟨r0,hr0⟩ : ∃ r0,r0 = List.replicate A.length false := ⟨_,rfl⟩
 have hr0e : encBs r0 = List.replicate A.length (.bool false) := by rw [hr0]; simp [encBs]
 have hr0l : r0.length = A.length := by rw [hr0]; simp
 refine ALoop.at nnΓ (fun p : Nat × List Bool => p.1 ≤ A.length ∧ p.2.length = A.length ∧ reachF A p.1 p.2 = reachT A)
  (fun p => ⟨[(1,.ptr 0 0 0),(2,.ptr 1 0 0),(3,.sl 2 0 A.length),(4,.int .i64 ((p.1 : Int) - 1))],[(0,.row 25 1 [.agg [.il 12 (encNs A)]]),(1,.row 25 1 [.agg [.nsl]]),(2,.row 4 1 (encBs p.2))],3,142⟩)
  (fun p => p.1) (A.length,r0) [(0,0),(1,1),(2,2)] ⟨Nat.le_refl _,hr0l,by rw [hr0]; rfl⟩
  (conv_mk _ rfl ⟨⟨0,_,rfl,rfl,.same (.cons (tree_nn A) .nil)⟩,⟨1,_,rfl,rfl,.same (.cons (.agg' (.cons .nsl .nil)) .nil)⟩,⟨2,_,rfl,rfl,.eq (encBs_nn _) (by rw [hr0e]; simp)⟩,trivial⟩
   ⟨⟨_,rfl,.ptr 0 0 0 0 rfl⟩,⟨_,rfl,.ptr 1 1 0 0 rfl⟩,⟨_,rfl,.slE rfl (by simp)⟩,⟨_,rfl,.w64 (by rw [encNs_length]) ⟨by omega,by omega⟩⟩,trivial⟩) ?_
 clear hr0e hr0l hr0 r0
 rintro ⟨m,r⟩ ⟨hm,hrl,hre⟩
 simp only at hm hrl hre ⊢
 ((conv=>whnf);repeat(refine Xg ?_;conv=>whnf))
 refine bcs_mk (fun hb => ?_) (fun hb => ?_)
 ·have hm1 : 0 < m := by simp at hb; omega
  obtain ⟨i,rfl⟩ : ∃ i,m = i + 1 := ⟨m - 1,by omega⟩
  rw [show (((i + 1 : Nat) : Int) - 1) = (i : Int) by omega]
  have hi : i < A.length := by omega
  have hx := List.getElem?_eq_getElem hi
  have ex : (encNs A)[((i : Nat) : Int).toNat]? = some (encN A[i]) := by simp [encNs_get,hx]
  have hKx := hKI i _ hx
  have hst : reachStep A r i = (A[i].kids).foldl (kidStep i) (r.set i (bAt r i || decide (i + 1 = A.length))) := by unfold reachStep; rw [nodeAt_eq hx]
  have hre2 : reachF A i (reachStep A r i) = reachT A := hre
  rw [hst] at hre2
  have bi : Nat.blt ((i : Nat) : Int).toNat A.length = true := Nat.ble_eq_true_of_le (by simp; omega)
  have gi := bAt_get (r := r) (i := i) (by omega)
  have hkl := (hB _ (List.getElem_mem hi)).klen
  generalize A[i] = x at hx ex hKx hst hre2 hkl
  obtain ⟨kind,name,lo,hi',ws,lbs,vals,kids,⟨vk,vn,vs,vks⟩⟩ := x
  simp only at hKx hst hre2 hkl
  rw [← hst] at hre2
  obtain ⟨r1,hr1⟩ : ∃ r1,r1 = r.set i (bAt r i || decide (i + 1 = A.length)) := ⟨_,rfl⟩
  have hr1l : r1.length = A.length := by rw [hr1,List.length_set]; exact hrl
  rw [← hr1] at hst
  obtain ⟨rs,hrs⟩ : ∃ rs,rs = reachStep A r i := ⟨_,rfl⟩
  rw [← hrs] at hre2 hst
  have hr1e : (kids.drop 0).foldl (kidStep i) r1 = rs := hst.symm
  clear hrs hst
  ((conv=>whnf);repeat(refine Xg ?_;conv=>whnf))
  repeat ((first | refine grd_mk bi ?_ | refine opt_mk gi ?_ | refine ⟨rfl, ?_⟩); ((conv=>whnf);repeat(refine Xg ?_;conv=>whnf)))
  have hwr : (((i : Nat) : Int) == IntKind.i64.wrap ((((encNs A).length : Nat) : Int) - 1)) = decide (i + 1 = A.length) := by
   rw [encNs_length,IntKind.wrap_i64,Bool.eq_iff_iff,beq_iff_eq,decide_eq_true_eq]; omega
  cases hbi : bAt r i
  all_goals
   rw [hbi] at gi
   ((conv=>whnf);repeat(refine Xg ?_;conv=>whnf))
   repeat ((first | refine grd_mk bi ?_ | refine opt_mk gi ?_ | refine setK_iff.2 ?_ | refine ⟨rfl, ?_⟩); ((conv=>whnf);repeat(refine Xg ?_;conv=>whnf)))
   refine opt_mk ex ?_
   ((conv=>whnf);repeat(refine Xg ?_;conv=>whnf))
   repeat (refine ⟨rfl, ?_⟩; ((conv=>whnf);repeat(refine Xg ?_;conv=>whnf)))
   refine ALoop.at nnΓ (fun p : Nat × List Bool => p.1 ≤ kids.length ∧ p.2.length = A.length ∧ (kids.drop p.1).foldl (kidStep i) p.2 = rs)
    (fun p => ⟨[(1,.ptr 0 0 0),(2,.ptr 1 0 0),(3,.sl 2 0 A.length),(4,.int .i64 i),(54,.il 1 (encI kids)),(55,.int .i64 kids.length),(56,.int .i64 p.1)],[(0,.row 25 1 [.agg [.il 12 (encNs A)]]),(1,.row 25 1 [.agg [.nsl]]),(2,.row 4 1 (encBs p.2))],3,142⟩)
    (fun p => kids.length - p.1) (0,r1) [(0,0),(1,1),(2,2)] ⟨Nat.zero_le _,hr1l,hr1e⟩
    (conv_mk _ rfl ⟨⟨0,_,rfl,rfl,.same (.cons (tree_nn A) .nil)⟩,⟨1,_,rfl,rfl,.same (.cons (.agg' (.cons .nsl .nil)) .nil)⟩,⟨2,_,rfl,rfl,.eq (encBs_nn _) (by rw [hr1]; simp [encBs_set,hbi,hwr])⟩,trivial⟩
     ⟨⟨_,rfl,.ptr 0 0 0 0 rfl⟩,⟨_,rfl,.ptr 1 1 0 0 rfl⟩,⟨_,rfl,.slE rfl rfl⟩,⟨_,rfl,.same _ nn⟩,⟨_,rfl,.same _ (.il' (encI_nn _))⟩,⟨_,rfl,.int (by rw [encI_length])⟩,⟨_,rfl,.same _ nn⟩,trivial⟩) ?_
   rintro ⟨j,q⟩ ⟨hj,hql,hqe⟩
   simp only at hj hql hqe ⊢
   ((conv=>whnf);repeat(refine Xg ?_;conv=>whnf))
   refine bcs_mk (fun hb2 => ?_) (fun hb2 => ?_)
   ·have hlt : j < kids.length := by simpa using hb2
    have hg := List.getElem?_eq_getElem hlt
    have e1 : (encI kids)[((j : Nat) : Int).toNat]? = some (.int .i64 kids[j]) := by simp [encI_get,hg]
    have hkr := hKx _ (List.getElem_mem hlt)
    rw [List.drop_eq_getElem_cons hlt,List.foldl_cons] at hqe
    generalize kids[j] = kk at e1 hkr hqe
    obtain ⟨k,rfl⟩ := Int.eq_ofNat_of_zero_le hkr.1
    have hki : k < A.length := by omega
    have bk : Nat.blt ((k : Nat) : Int).toNat A.length = true := Nat.ble_eq_true_of_le (by simp; omega)
    have gk := bAt_get (r := q) (i := k) (by omega)
    have gi2 := bAt_get (r := q) (i := i) (by omega)
    ((conv=>whnf);repeat(refine Xg ?_;conv=>whnf))
    refine opt_mk e1 ?_
    ((conv=>whnf);repeat(refine Xg ?_;conv=>whnf))
    repeat ((first | refine grd_mk bk ?_ | refine opt_mk gk ?_ | refine ⟨rfl, ?_⟩); ((conv=>whnf);repeat(refine Xg ?_;conv=>whnf)))
    have hks : kidStep i q k = q.set k (bAt q k || bAt q i) := by unfold kidStep; rw [Int.toNat_natCast]
    cases hbk : bAt q k
    all_goals
     rw [hbk] at gk hks
     ((conv=>whnf);repeat(refine Xg ?_;conv=>whnf))
     repeat ((first | refine grd_mk bi ?_ | refine grd_mk bk ?_ | refine opt_mk gk ?_ | refine opt_mk gi2 ?_ | refine setK_iff.2 ?_ | refine ⟨rfl, ?_⟩); ((conv=>whnf);repeat(refine Xg ?_;conv=>whnf)))
     exact .mk (j + 1,kidStep i q k) [(0,0),(1,1),(2,2)] ⟨by simp only; omega,by simp [kidStep,hql],hqe⟩
      (conv_mk _ rfl ⟨⟨0,_,rfl,rfl,.same (.cons (tree_nn A) .nil)⟩,⟨1,_,rfl,rfl,.same (.cons (.agg' (.cons .nsl .nil)) .nil)⟩,⟨2,_,rfl,rfl,.eq (encBs_nn _) (by rw [hks]; simp [encBs_set])⟩,trivial⟩
       ⟨⟨_,rfl,.ptr 0 0 0 0 rfl⟩,⟨_,rfl,.ptr 1 1 0 0 rfl⟩,⟨_,rfl,.slE rfl rfl⟩,⟨_,rfl,.same _ nn⟩,⟨_,rfl,.same _ (.il' (encI_nn _))⟩,⟨_,rfl,.same _ nn⟩,⟨_,rfl,.w64 (by simp only; omega) ⟨by simp only; omega,by simp only; omega⟩⟩,trivial⟩) (by simp only; omega)
   ·have hjl : j = kids.length := by simp at hb2; omega
    subst hjl
    rw [List.drop_length,List.foldl_nil] at hqe
    subst hqe
    ((conv=>whnf);repeat(refine Xg ?_;conv=>whnf))
    exact .mk (i,q) [(0,0),(1,1),(2,2)] ⟨by simp only; omega,hql,hre2⟩
     (conv_mk _ rfl ⟨⟨0,_,rfl,rfl,.same (.cons (tree_nn A) .nil)⟩,⟨1,_,rfl,rfl,.same (.cons (.agg' (.cons .nsl .nil)) .nil)⟩,⟨2,_,rfl,rfl,.same (encBs_nn _)⟩,trivial⟩
      ⟨⟨_,rfl,.ptr 0 0 0 0 rfl⟩,⟨_,rfl,.ptr 1 1 0 0 rfl⟩,⟨_,rfl,.slE rfl rfl⟩,⟨_,rfl,.w64 (by simp only) ⟨by simp only; omega,by simp only; omega⟩⟩,trivial⟩) (by simp only; omega)
 ·have hm0 : m = 0 := by simp at hb; omega
  subst hm0
  have hre : r = reachT A := hre
  subst hre
  ((conv=>whnf);repeat(refine Xg ?_;conv=>whnf))
  rw [encNs_length]
  refine grd_mk (mk_ok rfl rfl rfl (by omega) rfl) ?_
  ((conv=>whnf);repeat(refine Xg ?_;conv=>whnf))
  refine ALoop.ph 35 12 ?_
  refine ALoop.at nnΓ (fun i : Nat => i ≤ A.length)
   (fun i => ⟨[(1,.ptr 0 0 0),(2,.ptr 1 0 0),(3,.sl 2 0 A.length),(7,.ptr 3 0 0),(8,.sl 4 0 A.length),(9,.mp 5),(81,.int .i64 A.length),(82,.int .i64 i)],
    [(0,.row 25 1 [.agg [.il 12 (encNs A)]]),(1,.row 25 1 [.agg [.nsl]]),(2,.row 4 1 (encBs (reachT A))),(3,.row 25 1 [.agg [.sl 6 0 (trimN A (reachT A) i).1.length]]),(4,.row 3 1 (encI (trimN A (reachT A) i).2)),(5,.mapb (knE (trimN A (reachT A) i).1 0)),(6,.row 35 12 (encNs (trimN A (reachT A) i).1))],7,142⟩)
   (fun i => A.length - i) 0 [(0,0),(1,1),(2,2),(3,3),(4,4),(5,5),(6,6)] (Nat.zero_le _)
   (conv_mk _ rfl ⟨⟨0,_,rfl,rfl,.same (.cons (tree_nn A) .nil)⟩,⟨1,_,rfl,rfl,.same (.cons (.agg' (.cons .nsl .nil)) .nil)⟩,⟨2,_,rfl,rfl,.same (encBs_nn _)⟩,⟨3,_,rfl,rfl,.cons (.agg (.cons (.nslk 6 6 _ rfl rfl) .nil)) .nil⟩,⟨4,_,rfl,rfl,.eq (encI_nn _) (by simp [trimN,encI])⟩,⟨5,_,rfl,rfl,kn_cv [] 0⟩,⟨6,_,rfl,rfl,.same .nil⟩,trivial⟩
    ⟨⟨_,rfl,.ptr 0 0 0 0 rfl⟩,⟨_,rfl,.ptr 1 1 0 0 rfl⟩,⟨_,rfl,.slE rfl rfl⟩,⟨_,rfl,.ptr 3 3 0 0 rfl⟩,⟨_,rfl,.slE rfl (by simp)⟩,⟨_,rfl,.mp 5 5 rfl⟩,⟨_,rfl,.int (by rw [encNs_length])⟩,⟨_,rfl,.same _ nn⟩,trivial⟩) ?_
  intro i hi
  ((conv=>whnf);repeat(refine Xg ?_;conv=>whnf))
  refine bcs_mk (fun hb => ?_) (fun hb => ?_)
  ·have hil : i < A.length := by simpa using hb
   have hx := List.getElem?_eq_getElem hil
   have hxm := List.getElem_mem hil
   have ex : (encNs A)[((i : Nat) : Int).toNat]? = some (encN A[i]) := by simp [encNs_get,hx]
   have hKx := hKI i _ hx
   have hkl := (hB _ hxm).klen
   have hcN := cNode A[i] (hok _ hxm)
   have bi : Nat.blt ((i : Nat) : Int).toNat A.length = true := Nat.ble_eq_true_of_le (by simp; omega)
   have gi := bAt_get (r := reachT A) (i := i) (by rw [hRP.len]; exact hil)
   have hP := trim_all hKI hok (by omega) hRP i hi
   have hP1 := trim_all hKI hok (by omega) hRP (i + 1) (by omega)
   have hnx : trimN A (reachT A) (i + 1) = trimStep A (reachT A) (trimN A (reachT A) i) i := rfl
   generalize trimN A (reachT A) i = cur at hnx hP
   obtain ⟨T,pl⟩ := cur
   have hpl := hP.plen
   have hTl := hP.tlen
   have hcod : ∀ y,y = withKids A[i] pl → okN y → CodIn y := fun y hy ho => by rw [hy] at ho ⊢; exact codIn_kids hT hxm ho
   unfold trimStep at hnx
   simp only at hnx hpl hTl
   rw [nodeAt_eq hx] at hnx
   simp only
   cases hbi : bAt (reachT A) i with
   | false =>
    rw [hbi] at gi
    rw [if_pos hbi] at hnx
    ((conv=>whnf);repeat(refine Xg ?_;conv=>whnf))
    repeat ((first | refine grd_mk bi ?_ | refine opt_mk gi ?_ | refine ⟨rfl, ?_⟩); ((conv=>whnf);repeat(refine Xg ?_;conv=>whnf)))
    exact .mk (i + 1) [(0,0),(1,1),(2,2),(3,3),(4,4),(5,5),(6,6)] (by omega)
     (conv_mk _ rfl ⟨⟨0,_,rfl,rfl,.same (.cons (tree_nn A) .nil)⟩,⟨1,_,rfl,rfl,.same (.cons (.agg' (.cons .nsl .nil)) .nil)⟩,⟨2,_,rfl,rfl,.same (encBs_nn _)⟩,⟨3,_,rfl,rfl,.cons (.agg (.cons (.slE rfl (by rw [hnx])) .nil)) .nil⟩,⟨4,_,rfl,rfl,.eq (encI_nn _) (by rw [hnx])⟩,⟨5,_,rfl,rfl,by rw [hnx]; exact kn_cv T 0⟩,⟨6,_,rfl,rfl,.eq (encNs_nn _) (by rw [hnx])⟩,trivial⟩
      ⟨⟨_,rfl,.ptr 0 0 0 0 rfl⟩,⟨_,rfl,.ptr 1 1 0 0 rfl⟩,⟨_,rfl,.slE rfl rfl⟩,⟨_,rfl,.ptr 3 3 0 0 rfl⟩,⟨_,rfl,.slE rfl rfl⟩,⟨_,rfl,.mp 5 5 rfl⟩,⟨_,rfl,.same _ nn⟩,⟨_,rfl,.w64 (by omega) ⟨by omega,by omega⟩⟩,trivial⟩) (by omega)
   | true =>
    rw [hbi] at gi
    rw [if_neg (by rw [hbi]; simp)] at hnx
    have hkd := hRP.down i (Nat.zero_le _) hil hbi
    have hxo : okN (withKids A[i] pl) := by
     obtain ⟨q,q1,q2⟩ := hP1.img i (Nat.lt_succ_self _) hil hbi
     have h3 := hP1.ok _ (List.mem_of_getElem? q2)
     rw [nodeAt_eq hx] at h3
     have e : withKids A[i] (trimN A (reachT A) (i + 1)).2 = withKids A[i] pl := by
      have hne : ∀ k ∈ A[i].kids,k.toNat ≠ i := fun k hk => by have := hKx k hk; omega
      rw [hnx]
      split <;> exact withKids_set hne
     rw [e] at h3
     exact h3
    obtain ⟨y,hy⟩ : ∃ y,y = withKids A[i] pl := ⟨_,rfl⟩
    rw [← hy] at hxo hnx
    have hcy := hcod y hy hxo
    have hEn := tEncodeNode y hcy
    have hyn := encN_nn y
    clear hcod hP1
    obtain ⟨x,hxe⟩ : ∃ x,x = A[i] := ⟨_,rfl⟩
    rw [← hxe] at ex hKx hkl hcN hy
    clear hx hxm hxe hkd
    obtain ⟨kind,name,lo,hi',ws,lbs,vals,kids,⟨vk,vn,vs,vks⟩⟩ := x
    simp only at hKx hkl hcN
    ((conv=>whnf);repeat(refine Xg ?_;conv=>whnf))
    repeat ((first | refine grd_mk bi ?_ | refine opt_mk gi ?_ | refine opt_mk ex ?_ | refine ⟨rfl, ?_⟩); ((conv=>whnf);repeat(refine Xg ?_;conv=>whnf)))
    have NDn : ∀ s : AV,NN s → NN (.agg [.int .i64 kind,.str name,.int .i64 lo,.int .i64 hi',.il 1 (encI ws),.il 1 (encS lbs),.il 4 (encVs vals),s,.int .i64 vk,.int .i64 vn,.str vs,.il 4 (encVs vks)]) := fun s hs =>
     .agg' (.cons nn (.cons nn (.cons nn (.cons nn (.cons (.il' (encI_nn _)) (.cons (.il' (encS_nn _)) (.cons (.il' (encVs_nn _)) (.cons hs (.cons nn (.cons nn (.cons nn (.cons (.il' (encVs_nn _)) .nil))))))))))))
    refine ACalls.useN nnΓ [] hcN rfl (.same (.cons (NDn _ (.il' (encI_nn _))) .nil)) trivial rfl ?_
    rintro r' m' n' ⟨rfl,rfl,rfl⟩
    refine ⟨[(0,7)],.agg [.int .i64 kind,.str name,.int .i64 lo,.int .i64 hi',.il 1 (encI ws),.il 1 (encS lbs),.il 4 (encVs vals),.sl 7 0 kids.length,.int .i64 vk,.int .i64 vn,.str vs,.il 4 (encVs vks)],[(7,.row 3 1 (encI kids))],8,
     .agg' (.cons (.same _ nn) (.cons (.same _ nn) (.cons (.same _ nn) (.cons (.same _ nn) (.cons (.same _ (.il' (encI_nn _))) (.cons (.same _ (.il' (encS_nn _))) (.cons (.same _ (.il' (encVs_nn _))) (.cons (.sl 0 7 0 _ rfl) (.cons (.same _ nn) (.cons (.same _ nn) (.cons (.same _ nn) (.cons (.same _ (.il' (encVs_nn _))) .nil)))))))))))),⟨⟨0,_,rfl,rfl,.same (encI_nn _)⟩,trivial⟩,rfl, ?_⟩
    ((conv=>whnf);repeat(refine Xg ?_;conv=>whnf))
    repeat (refine ⟨rfl, ?_⟩; ((conv=>whnf);repeat(refine Xg ?_;conv=>whnf)))
    obtain ⟨ks2,hks2⟩ : ∃ ks2,ks2 = kids.map (placeAt pl) := ⟨_,rfl⟩
    have hk2l : ks2.length = kids.length := by rw [hks2]; simp
    have hzl : (encI kids).length = (encI ks2).length := by rw [encI_length,encI_length,hk2l]
    have hy2 : y = ⟨kind,name,lo,hi',ws,lbs,vals,ks2,.mk vk vn vs vks⟩ := by rw [hy,hks2]; rfl
    refine ALoop.at nnΓ (fun k : Nat => k ≤ kids.length)
     (fun k => ⟨[(1,.ptr 0 0 0),(2,.ptr 1 0 0),(3,.sl 2 0 A.length),(7,.ptr 3 0 0),(8,.sl 4 0 A.length),(9,.mp 5),(10,.int .i64 i),(11,.ptr 8 0 0),(81,.int .i64 A.length),(82,.int .i64 i),(97,.sl 7 0 kids.length),(98,.int .i64 kids.length),(99,.int .i64 k)],
      [(0,.row 25 1 [.agg [.il 12 (encNs A)]]),(1,.row 25 1 [.agg [.nsl]]),(2,.row 4 1 (encBs (reachT A))),(3,.row 25 1 [.agg [.sl 6 0 T.length]]),(4,.row 3 1 (encI pl)),(5,.mapb (knE T 0)),(6,.row 35 12 (encNs T)),(7,.row 3 1 (fillV (encI kids) (encI ks2) k)),(8,.row 35 12 [.agg [.int .i64 kind,.str name,.int .i64 lo,.int .i64 hi',.il 1 (encI ws),.il 1 (encS lbs),.il 4 (encVs vals),.sl 7 0 kids.length,.int .i64 vk,.int .i64 vn,.str vs,.il 4 (encVs vks)]])],9,142⟩)
     (fun k => kids.length - k) 0 [(0,0),(1,1),(2,2),(3,3),(4,4),(5,5),(6,6),(7,7),(8,8)] (Nat.zero_le _)
     (conv_mk _ rfl ⟨⟨0,_,rfl,rfl,.same (.cons (tree_nn A) .nil)⟩,⟨1,_,rfl,rfl,.same (.cons (.agg' (.cons .nsl .nil)) .nil)⟩,⟨2,_,rfl,rfl,.same (encBs_nn _)⟩,⟨3,_,rfl,rfl,.cons (.agg (.cons (.slE rfl rfl) .nil)) .nil⟩,⟨4,_,rfl,rfl,.same (encI_nn _)⟩,⟨5,_,rfl,rfl,kn_cv T 0⟩,⟨6,_,rfl,rfl,.same (encNs_nn _)⟩,⟨7,_,rfl,rfl,.eq (fillV_nn (encI_nn _) (encI_nn _) _) (by simp [fillV])⟩,⟨8,_,rfl,rfl,.cons (.agg (.cons (.same _ nn) (.cons (.same _ nn) (.cons (.same _ nn) (.cons (.same _ nn) (.cons (.same _ (.il' (encI_nn _))) (.cons (.same _ (.il' (encS_nn _))) (.cons (.same _ (.il' (encVs_nn _))) (.cons (.slE rfl rfl) (.cons (.same _ nn) (.cons (.same _ nn) (.cons (.same _ nn) (.cons (.same _ (.il' (encVs_nn _))) .nil))))))))))))) .nil⟩,trivial⟩
      ⟨⟨_,rfl,.ptr 0 0 0 0 rfl⟩,⟨_,rfl,.ptr 1 1 0 0 rfl⟩,⟨_,rfl,.slE rfl rfl⟩,⟨_,rfl,.ptr 3 3 0 0 rfl⟩,⟨_,rfl,.slE rfl rfl⟩,⟨_,rfl,.mp 5 5 rfl⟩,⟨_,rfl,.same _ nn⟩,⟨_,rfl,.ptr 8 8 0 0 rfl⟩,⟨_,rfl,.same _ nn⟩,⟨_,rfl,.same _ nn⟩,⟨_,rfl,.slE rfl rfl⟩,⟨_,rfl,.same _ nn⟩,⟨_,rfl,.same _ nn⟩,trivial⟩) ?_
    intro k hk
    ((conv=>whnf);repeat(refine Xg ?_;conv=>whnf))
    refine bcs_mk (fun hb2 => ?_) (fun hb2 => ?_)
    ·have hlt : k < kids.length := by simpa using hb2
     have hg := List.getElem?_eq_getElem hlt
     have hkr := hKx _ (List.getElem_mem hlt)
     have hv2 : (encI ks2)[k]? = some (.int .i64 (placeAt pl kids[k])) := by rw [hks2,encI_get,List.getElem?_map,hg]; rfl
     have bx : Nat.blt ((k : Nat) : Int).toNat kids.length = true := Nat.ble_eq_true_of_le (by simp; omega)
     have bz : (fillV (encI kids) (encI ks2) k)[0 + ((k : Nat) : Int).toNat]? = some (.int .i64 kids[k]) := by
      rw [show 0 + ((k : Nat) : Int).toNat = k by simp,fillV_get hzl (by rw [encI_length]; omega),encI_get,hg]; rfl
     have hs := fillV_set hzl (k := k) (by rw [encI_length]; omega) hv2
     generalize kids[k] = kk at hkr hv2 bz hs
     obtain ⟨q,rfl⟩ := Int.eq_ofNat_of_zero_le hkr.1
     have bq : Nat.blt ((q : Nat) : Int).toNat A.length = true := Nat.ble_eq_true_of_le (by simp; omega)
     have gq : (encI pl)[0 + ((q : Nat) : Int).toNat]? = some (.int .i64 (placeAt pl q)) := by
      unfold placeAt
      rw [Nat.zero_add,encI_get,List.getD_eq_getElem?_getD,List.getElem?_eq_getElem (by simp only [Int.toNat_natCast]; omega)]; rfl
     generalize placeAt pl q = v at gq hs hv2
     ((conv=>whnf);repeat(refine Xg ?_;conv=>whnf))
     repeat ((first | refine grd_mk bx ?_ | refine opt_mk bz ?_ | refine grd_mk bq ?_ | refine opt_mk gq ?_ | refine setK_iff.2 ?_ | refine ⟨rfl, ?_⟩); ((conv=>whnf);repeat(refine Xg ?_;conv=>whnf)))
     exact .mk (k + 1) [(0,0),(1,1),(2,2),(3,3),(4,4),(5,5),(6,6),(7,7),(8,8)] (by omega)
      (conv_mk _ rfl ⟨⟨0,_,rfl,rfl,.same (.cons (tree_nn A) .nil)⟩,⟨1,_,rfl,rfl,.same (.cons (.agg' (.cons .nsl .nil)) .nil)⟩,⟨2,_,rfl,rfl,.same (encBs_nn _)⟩,⟨3,_,rfl,rfl,.cons (.agg (.cons (.slE rfl rfl) .nil)) .nil⟩,⟨4,_,rfl,rfl,.same (encI_nn _)⟩,⟨5,_,rfl,rfl,kn_cv T 0⟩,⟨6,_,rfl,rfl,.same (encNs_nn _)⟩,⟨7,_,rfl,rfl,.eq (fillV_nn (encI_nn _) (encI_nn _) _) (by rw [← hs]; simp)⟩,⟨8,_,rfl,rfl,.cons (.agg (.cons (.same _ nn) (.cons (.same _ nn) (.cons (.same _ nn) (.cons (.same _ nn) (.cons (.same _ (.il' (encI_nn _))) (.cons (.same _ (.il' (encS_nn _))) (.cons (.same _ (.il' (encVs_nn _))) (.cons (.slE rfl rfl) (.cons (.same _ nn) (.cons (.same _ nn) (.cons (.same _ nn) (.cons (.same _ (.il' (encVs_nn _))) .nil))))))))))))) .nil⟩,trivial⟩
       ⟨⟨_,rfl,.ptr 0 0 0 0 rfl⟩,⟨_,rfl,.ptr 1 1 0 0 rfl⟩,⟨_,rfl,.slE rfl rfl⟩,⟨_,rfl,.ptr 3 3 0 0 rfl⟩,⟨_,rfl,.slE rfl rfl⟩,⟨_,rfl,.mp 5 5 rfl⟩,⟨_,rfl,.same _ nn⟩,⟨_,rfl,.ptr 8 8 0 0 rfl⟩,⟨_,rfl,.same _ nn⟩,⟨_,rfl,.same _ nn⟩,⟨_,rfl,.slE rfl rfl⟩,⟨_,rfl,.same _ nn⟩,⟨_,rfl,.w64 (by omega) ⟨by omega,by omega⟩⟩,trivial⟩) (by omega)
    ·have hkl2 : k = kids.length := by simp at hb2; omega
     subst hkl2
     rw [show fillV (encI kids) (encI ks2) kids.length = encI ks2 by rw [← hk2l,← encI_length ks2]; exact fillV_all hzl]
     ((conv=>whnf);repeat(refine Xg ?_;conv=>whnf))
     refine ACalls.pre nnΓ [(0,0),(1,1),(2,2),(3,3),(4,4),(5,5),(6,6),(8,8)] (mem' := [(0,.row 25 1 [.agg [.il 12 (encNs A)]]),(1,.row 25 1 [.agg [.nsl]]),(2,.row 4 1 (encBs (reachT A))),(3,.row 25 1 [.agg [.sl 6 0 T.length]]),(4,.row 3 1 (encI pl)),(5,.mapb (knE T 0)),(6,.row 35 12 (encNs T)),(8,.row 35 12 [.agg [.int .i64 kind,.str name,.int .i64 lo,.int .i64 hi',.il 1 (encI ws),.il 1 (encS lbs),.il 4 (encVs vals),.il 1 (encI ks2),.int .i64 vk,.int .i64 vn,.str vs,.il 4 (encVs vks)]])]) rfl
      ⟨⟨0,_,rfl,rfl,.same (.cons (tree_nn A) .nil)⟩,⟨1,_,rfl,rfl,.same (.cons (.agg' (.cons .nsl .nil)) .nil)⟩,⟨2,_,rfl,rfl,.same (encBs_nn _)⟩,⟨3,_,rfl,rfl,.cons (.agg (.cons (.slE rfl rfl) .nil)) .nil⟩,⟨4,_,rfl,rfl,.same (encI_nn _)⟩,⟨5,_,rfl,rfl,kn_cv T 0⟩,⟨6,_,rfl,rfl,.same (encNs_nn _)⟩,⟨8,_,rfl,rfl,.cons (.agg (.cons (.same _ nn) (.cons (.same _ nn) (.cons (.same _ nn) (.cons (.same _ nn) (.cons (.same _ (.il' (encI_nn _))) (.cons (.same _ (.il' (encS_nn _))) (.cons (.same _ (.il' (encVs_nn _))) (.cons (.fz' (id := 7) rfl rfl (by rw [encI_length,hk2l]; omega) (by rw [List.drop_zero]; exact List.take_of_length_le (by rw [encI_length,hk2l]; omega)) (encI_nn _)) (.cons (.same _ nn) (.cons (.same _ nn) (.cons (.same _ nn) (.cons (.same _ (.il' (encVs_nn _))) .nil))))))))))))) .nil⟩,trivial⟩ (.cons (.agg' (.cons (.same _ nn) (.cons (.same _ nn) (.cons (.same _ nn) (.cons (.same _ nn) (.cons (.same _ (.il' (encI_nn _))) (.cons (.same _ (.il' (encS_nn _))) (.cons (.same _ (.il' (encVs_nn _))) (.cons (.fz' (id := 7) rfl rfl (by rw [encI_length,hk2l]; omega) (by rw [List.drop_zero]; exact List.take_of_length_le (by rw [encI_length,hk2l]; omega)) (encI_nn _)) (.cons (.same _ nn) (.cons (.same _ nn) (.cons (.same _ nn) (.cons (.same _ (.il' (encVs_nn _))) .nil))))))))))))) .nil) ?_
     have hEn' := hEn
     rw [hy2] at hEn'
     refine hEn'.go ?_ (.cons (NDn _ (.il' (encI_nn _))) .nil) (.il' (encB_nn _))
     rw [← hy2]
     ((conv=>whnf);repeat(refine Xg ?_;conv=>whnf))
     refine opt_mk (toBytes_encB _) ?_
     ((conv=>whnf);repeat(refine Xg ?_;conv=>whnf))
     obtain ⟨pv,hpv⟩ : ∃ pv,pl[i]? = some pv := ⟨_,List.getElem?_eq_getElem (by omega)⟩
     have gpi : (encI pl)[0 + ((i : Nat) : Int).toNat]? = some (.int .i64 pv) := by rw [Int.toNat_natCast,Nat.zero_add,encI_get,hpv]; rfl
     cases hf : idxN T y with
     | some q =>
      rw [hf] at hnx
      simp only at hnx
      refine opt_mk (lookS_some rfl hf) ?_
      ((conv=>whnf);repeat(refine Xg ?_;conv=>whnf))
      repeat ((first | refine grd_mk bi ?_ | refine opt_mk gpi ?_ | refine setK_iff.2 ?_ | refine ⟨rfl, ?_⟩); ((conv=>whnf);repeat(refine Xg ?_;conv=>whnf)))
      exact .mk (i + 1) [(0,0),(1,1),(2,2),(3,3),(4,4),(5,5),(6,6)] (by omega)
       (conv_mk _ rfl ⟨⟨0,_,rfl,rfl,.same (.cons (tree_nn A) .nil)⟩,⟨1,_,rfl,rfl,.same (.cons (.agg' (.cons .nsl .nil)) .nil)⟩,⟨2,_,rfl,rfl,.same (encBs_nn _)⟩,⟨3,_,rfl,rfl,.cons (.agg (.cons (.slE rfl (by rw [hnx])) .nil)) .nil⟩,⟨4,_,rfl,rfl,.eq (encI_nn _) (by rw [hnx]; simp [encI,List.map_set])⟩,⟨5,_,rfl,rfl,by rw [hnx]; exact kn_cv T 0⟩,⟨6,_,rfl,rfl,.eq (encNs_nn _) (by rw [hnx])⟩,trivial⟩
        ⟨⟨_,rfl,.ptr 0 0 0 0 rfl⟩,⟨_,rfl,.ptr 1 1 0 0 rfl⟩,⟨_,rfl,.slE rfl rfl⟩,⟨_,rfl,.ptr 3 3 0 0 rfl⟩,⟨_,rfl,.slE rfl rfl⟩,⟨_,rfl,.mp 5 5 rfl⟩,⟨_,rfl,.same _ nn⟩,⟨_,rfl,.w64 (by omega) ⟨by omega,by omega⟩⟩,trivial⟩) (by omega)
     | none =>
      rw [hf] at hnx
      simp only at hnx
      refine opt_mk (lookS_none rfl hf) ?_
      ((conv=>whnf);repeat(refine Xg ?_;conv=>whnf))
      refine opt_mk (findS_none T 0 0 hf) ?_
      ((conv=>whnf);repeat(refine Xg ?_;conv=>whnf))
      refine appK_iff.2 ?_
      ((conv=>whnf);repeat(refine Xg ?_;conv=>whnf))
      repeat (refine ⟨rfl, ?_⟩; ((conv=>whnf);repeat(refine Xg ?_;conv=>whnf)))
      refine grd_mk (app_ok rfl rfl (by rw [encNs_length]) (by simp; omega)) ?_
      ((conv=>whnf);repeat(refine Xg ?_;conv=>whnf))
      repeat ((first | refine grd_mk bi ?_ | refine opt_mk gpi ?_ | refine setK_iff.2 ?_ | refine ⟨rfl, ?_⟩); ((conv=>whnf);repeat(refine Xg ?_;conv=>whnf)))
      have hkn : knE (T ++ [y]) 0 = knE T 0 ++ [(.str (codN y),.int .i64 ((T.length : Nat) : Int))] := by rw [knE_snoc,Nat.zero_add]
      exact .mk (i + 1) [(0,0),(1,1),(2,2),(3,3),(4,4),(5,5),(10,6)] (by omega)
       (conv_mk _ rfl ⟨⟨0,_,rfl,rfl,.same (.cons (tree_nn A) .nil)⟩,⟨1,_,rfl,rfl,.same (.cons (.agg' (.cons .nsl .nil)) .nil)⟩,⟨2,_,rfl,rfl,.same (encBs_nn _)⟩,⟨3,_,rfl,rfl,.cons (.agg (.cons (.slE rfl (by rw [hnx]; simp)) .nil)) .nil⟩,⟨4,_,rfl,rfl,.eq (encI_nn _) (by rw [hnx]; simp [encI,List.map_set])⟩,⟨5,_,rfl,rfl,by rw [hnx]; simp only; rw [← hkn]; exact kn_cv (T ++ [y]) 0⟩,⟨10,_,rfl,rfl,.eq (encNs_nn _) (by rw [hnx,hy2]; simp [encNs,encN])⟩,trivial⟩
        ⟨⟨_,rfl,.ptr 0 0 0 0 rfl⟩,⟨_,rfl,.ptr 1 1 0 0 rfl⟩,⟨_,rfl,.slE rfl rfl⟩,⟨_,rfl,.ptr 3 3 0 0 rfl⟩,⟨_,rfl,.slE rfl rfl⟩,⟨_,rfl,.mp 5 5 rfl⟩,⟨_,rfl,.same _ nn⟩,⟨_,rfl,.w64 (by omega) ⟨by omega,by omega⟩⟩,trivial⟩) (by omega)
  ·have hil : i = A.length := by simp at hb; omega
   subst hil
   ((conv=>whnf);repeat(refine Xg ?_;conv=>whnf))
   have hTl : (encNs (trimT A)).length = (trimT A).length := encNs_length _
   exact fin_cv (r' := .agg [.il 12 (encNs (trimT A))]) (.agg' (.cons (.fz' (id := 6) rfl rfl (by show 0 + (trimT A).length ≤ (encNs (trimT A)).length; omega) (by show List.take (trimT A).length (List.drop 0 (encNs (trimT A))) = _; rw [List.drop_zero]; exact List.take_of_length_le (by omega)) (encNs_nn _)) .nil)) ⟨rfl,rfl,rfl⟩
set_option maxRecDepth 1000000
theorem lives31 : ((fdeep Tryz.prog gz 60).call 10 [] [] 0 fun r _ _ => saysTrue r) = True := by kernel_rfl
set_option maxHeartbeats 16000000
structure LawT (A : List Nd) : Prop where
 sp : ∀ x ∈ A,SpN LB x
 len : A.length ≤ 14
theorem LawT.lab {A : List Nd} (h : LawT A) : ∀ x ∈ A,∀ s ∈ x.labels,s ∈ LB := fun x hx => (h.sp x hx).lab
def encTs (L : List (List Nd)) : List AV := L.map fun t => .agg [.il 12 (encNs t)]
theorem encTs_nn (L : List (List Nd)) : NNs (encTs L) := fun a ha => by
 obtain ⟨n,_,rfl⟩ := List.mem_map.1 ha
 exact tree_nn n
theorem encTs_get {L : List (List Nd)} {i : Nat} (h : i < L.length) : (encTs L)[((i : Nat) : Int).toNat]? = some (.agg [.il 12 (encNs L[i])]) := by
 simp [encTs,List.getElem?_eq_getElem h]
set_option maxHeartbeats 16000000
set_option linter.unusedSimpArgs false
theorem lawItselfW (l : List Int) (n : Int) (hl : ∀ x ∈ l,i64 x) (hn : i64 n) : PureC Tryz.prog gz 5 [.il 1 (encI l),.int .i64 n] (.bool true) := by
 refine acalls_go nngz Tryz.func5 rfl ?_
 ((conv=>whnf);repeat(refine Xg ?_;conv=>whnf))
 refine fTree l hl fun A hTA hAl => ?_
 have hGA := genB_tree hTA
 have hSA : ∀ x ∈ A,SpN LB x := fun x hx => spN_gen abcd_LB (hGA x hx)
 ((conv=>whnf);repeat(refine Xg ?_;conv=>whnf))
 repeat (refine ⟨rfl, ?_⟩; ((conv=>whnf);repeat(refine Xg ?_;conv=>whnf)))
 rw [encNs_length]
 by_cases h0 : A.length = 0
 ·obtain rfl : A = [] := List.eq_nil_of_length_eq_zero h0
  ((conv=>whnf);repeat(refine Xg ?_;conv=>whnf))
  have hD := dSame (treeIn_of (fun s hs => LB_len hs) (ns := []) (LB := LB) (by simp) (by simp)) (treeIn_of (fun s hs => LB_len hs) (ns := []) (LB := LB) (by simp) (by simp))
  rw [show changedM [] [] = 0 by simp [changedM,usableT],decide_eq_true rfl] at hD
  refine ACalls.pre nngz [(0,0)] (mem' := [(0,.row 25 1 [.agg [.il 12 (encNs [])]])]) rfl ⟨⟨0,_,rfl,rfl,.same (.cons (tree_nn []) .nil)⟩,trivial⟩ (.cons (.same _ (tree_nn [])) (.cons (.agg' (.cons (.nil 12) .nil)) .nil)) ?_
  refine hD.use nngz (.cons (tree_nn []) (.cons (tree_nn []) .nil)) nn ?_
  ((conv=>whnf);repeat(refine Xg ?_;conv=>whnf))
  refine ACalls.call0 nngz (acalls_closed 60 (by rw [lives31]; trivial)) .nil ?_
  intro r m' n' hr
  rw [saysTrue_eq hr]
  refine ⟨_,.same _ (.bool true), ?_⟩
  ((conv=>whnf);repeat(refine Xg ?_;conv=>whnf))
  exact fin_pure (.bool _) ⟨rfl,rfl,rfl⟩
 ·rw [show (((A.length : Nat) : Int) == 0) = false by simpa using h0]
  have hTr := tTrim A hTA (by omega)
  have hv := hTA.valid
  have hok : ∀ x ∈ A,okN x := fun x hx => (hGA x hx).ok
  ((conv=>whnf);repeat(refine Xg ?_;conv=>whnf))
  refine hTr.goG ?_ (.cons (tree_nn A) .nil) (tree_nn _)
  ((conv=>whnf);repeat(refine Xg ?_;conv=>whnf))
  refine ALoop.at nngz (fun i : Nat => i ≤ A.length)
   (fun i => ⟨[(5,.ptr 0 0 0),(6,.ptr 1 0 0),(7,.ptr 2 0 0),(8,.int .i64 i)],[(0,.row 25 1 [.agg [.il 12 (encNs A)]]),(1,.row 25 1 [.agg [.il 12 (encNs (trimT A))]]),(2,.row 25 1 [.agg [.sl 3 0 (i + 1)]]),(3,.row 35 12 (encNs ((moreT n A).take (i + 1))))],4,152⟩)
   (fun i => A.length - i) 0 [(0,0),(1,1),(3,2),(2,3)] (Nat.zero_le _)
   (conv_mk _ rfl ⟨⟨0,_,rfl,rfl,.same (.cons (tree_nn A) .nil)⟩,⟨1,_,rfl,rfl,.same (.cons (tree_nn _) .nil)⟩,⟨3,_,rfl,rfl,.cons (.agg (.cons (.slE rfl rfl) .nil)) .nil⟩,
     ⟨2,_,rfl,rfl,.cons (.agg (.cons (.same _ nn) (.cons (.same _ nn) (.cons (.same _ nn) (.cons (.same _ nn) (.cons (.nil 1) (.cons (.nil 1) (.cons (.nil 4) (.cons (.nil 1) (.cons (.same _ nn) (.cons (.same _ nn) (.cons (.same _ nn) (.cons (.nil 4) .nil))))))))))))) .nil⟩,trivial⟩
    ⟨⟨_,rfl,.ptr 0 0 0 0 rfl⟩,⟨_,rfl,.ptr 1 1 0 0 rfl⟩,⟨_,rfl,.ptr 3 2 0 0 rfl⟩,⟨_,rfl,.same _ nn⟩,trivial⟩) ?_
  intro i hi
  ((conv=>whnf);repeat(refine Xg ?_;conv=>whnf))
  rw [encNs_length]
  refine bcs_mk (fun hb => ?_) (fun hb => ?_)
  ·have hil : i < A.length := by simpa using hb
   have hx := List.getElem?_eq_getElem hil
   have hxm := List.getElem_mem hil
   have ex : (encNs A)[((i : Nat) : Int).toNat]? = some (encN A[i]) := by simp [encNs_get,hx]
   have hKx := kidsIn_of hv i _ hx
   have hkl := (hGA _ hxm).klen
   have hsn : (moreT n A).take (i + 1 + 1) = (moreT n A).take (i + 1) ++ [shiftN A[i]] := by rw [List.take_add_one (i := i + 1),moreT_get hx]; rfl
   have hml := moreT_len n A
   generalize A[i] = x at ex hKx hkl hsn hx
   obtain ⟨kind,name,lo,hi',ws,lbs,vals,kids,⟨vk,vn,vs,vks⟩⟩ := x
   simp only at hKx hkl
   clear hx hxm
   obtain ⟨ks2,hks2⟩ : ∃ ks2,ks2 = kids.map (· + 1) := ⟨_,rfl⟩
   have hk2l : ks2.length = kids.length := by rw [hks2]; simp
   have hsh : shiftN ⟨kind,name,lo,hi',ws,lbs,vals,kids,.mk vk vn vs vks⟩ = ⟨kind,name,lo,hi',ws,lbs,vals,ks2,.mk vk vn vs vks⟩ := by rw [hks2]; rfl
   rw [hsh] at hsn
   ((conv=>whnf);repeat(refine Xg ?_;conv=>whnf))
   repeat ((first | refine opt_mk ex ?_ | refine ⟨rfl, ?_⟩); ((conv=>whnf);repeat(refine Xg ?_;conv=>whnf)))
   refine ALoop.ph 3 1 ?_
   refine ALoop.at nngz (fun k : Nat => k ≤ kids.length)
    (fun k => ⟨[(5,.ptr 0 0 0),(6,.ptr 1 0 0),(7,.ptr 2 0 0),(8,.int .i64 i),(9,.ptr 4 0 0),(10,.sl 5 0 k),(11,.int .i64 k)],[(0,.row 25 1 [.agg [.il 12 (encNs A)]]),(1,.row 25 1 [.agg [.il 12 (encNs (trimT A))]]),(2,.row 25 1 [.agg [.sl 3 0 (i + 1)]]),(3,.row 35 12 (encNs ((moreT n A).take (i + 1)))),(4,.row 35 12 [.agg [.int .i64 kind,.str name,.int .i64 lo,.int .i64 hi',.il 1 (encI ws),.il 1 (encS lbs),.il 4 (encVs vals),.il 1 (encI kids),.int .i64 vk,.int .i64 vn,.str vs,.il 4 (encVs vks)]]),(5,.row 3 1 (encI (ks2.take k)))],6,152⟩)
    (fun k => kids.length - k) 0 [(0,0),(1,1),(2,2),(3,3),(4,4),(5,5)] (Nat.zero_le _)
    (conv_mk _ rfl ⟨⟨0,_,rfl,rfl,.same (.cons (tree_nn A) .nil)⟩,⟨1,_,rfl,rfl,.same (.cons (tree_nn _) .nil)⟩,⟨2,_,rfl,rfl,.cons (.agg (.cons (.slE rfl rfl) .nil)) .nil⟩,⟨3,_,rfl,rfl,.same (encNs_nn _)⟩,⟨4,_,rfl,rfl,.cons (.agg (.cons (.same _ nn) (.cons (.same _ nn) (.cons (.same _ nn) (.cons (.same _ nn) (.cons (.same _ (.il' (encI_nn _))) (.cons (.same _ (.il' (encS_nn _))) (.cons (.same _ (.il' (encVs_nn _))) (.cons (.same _ (.il' (encI_nn _))) (.cons (.same _ nn) (.cons (.same _ nn) (.cons (.same _ nn) (.cons (.same _ (.il' (encVs_nn _))) .nil))))))))))))) .nil⟩,⟨5,_,rfl,rfl,.same .nil⟩,trivial⟩
     ⟨⟨_,rfl,.ptr 0 0 0 0 rfl⟩,⟨_,rfl,.ptr 1 1 0 0 rfl⟩,⟨_,rfl,.ptr 2 2 0 0 rfl⟩,⟨_,rfl,.same _ nn⟩,⟨_,rfl,.ptr 4 4 0 0 rfl⟩,⟨_,rfl,.nslk 5 5 _ rfl rfl⟩,⟨_,rfl,.same _ nn⟩,trivial⟩) ?_
   intro k hk
   ((conv=>whnf);repeat(refine Xg ?_;conv=>whnf))
   rw [encI_length]
   refine bcs_mk (fun hb2 => ?_) (fun hb2 => ?_)
   ·have hlt : k < kids.length := by simpa using hb2
    have hg := List.getElem?_eq_getElem hlt
    have e1 : (encI kids)[((k : Nat) : Int).toNat]? = some (.int .i64 kids[k]) := by simp [encI_get,hg]
    have hkr := hKx _ (List.getElem_mem hlt)
    have hk3 : ks2.take (k + 1) = ks2.take k ++ [kids[k] + 1] := by rw [List.take_add_one,hks2,List.getElem?_map,hg]; rfl
    generalize kids[k] = kk at e1 hkr hk3
    have hw : IntKind.i64.wrap (kk + 1) = kk + 1 := wrap64 ⟨by omega,by omega⟩
    ((conv=>whnf);repeat(refine Xg ?_;conv=>whnf))
    repeat ((first | refine opt_mk e1 ?_ | refine ⟨rfl, ?_⟩); ((conv=>whnf);repeat(refine Xg ?_;conv=>whnf)))
    refine grd_mk (app_ok rfl rfl (by rw [encI_length,List.length_take]; omega) (by simp; omega)) ?_
    ((conv=>whnf);repeat(refine Xg ?_;conv=>whnf))
    exact .mk (k + 1) [(0,0),(1,1),(2,2),(3,3),(4,4),(7,5)] (by omega)
     (conv_mk _ rfl ⟨⟨0,_,rfl,rfl,.same (.cons (tree_nn A) .nil)⟩,⟨1,_,rfl,rfl,.same (.cons (tree_nn _) .nil)⟩,⟨2,_,rfl,rfl,.cons (.agg (.cons (.slE rfl rfl) .nil)) .nil⟩,⟨3,_,rfl,rfl,.same (encNs_nn _)⟩,⟨4,_,rfl,rfl,.cons (.agg (.cons (.same _ nn) (.cons (.same _ nn) (.cons (.same _ nn) (.cons (.same _ nn) (.cons (.same _ (.il' (encI_nn _))) (.cons (.same _ (.il' (encS_nn _))) (.cons (.same _ (.il' (encVs_nn _))) (.cons (.same _ (.il' (encI_nn _))) (.cons (.same _ nn) (.cons (.same _ nn) (.cons (.same _ nn) (.cons (.same _ (.il' (encVs_nn _))) .nil))))))))))))) .nil⟩,⟨7,_,rfl,rfl,.eq (encI_nn _) (by rw [hk3]; simp [encI,hw])⟩,trivial⟩
      ⟨⟨_,rfl,.ptr 0 0 0 0 rfl⟩,⟨_,rfl,.ptr 1 1 0 0 rfl⟩,⟨_,rfl,.ptr 2 2 0 0 rfl⟩,⟨_,rfl,.same _ nn⟩,⟨_,rfl,.ptr 4 4 0 0 rfl⟩,⟨_,rfl,.slE rfl (by simp)⟩,⟨_,rfl,.w64 (by omega) ⟨by omega,by omega⟩⟩,trivial⟩) (by omega)
   ·have hkl2 : k = kids.length := by simp at hb2; omega
    subst hkl2
    rw [show ks2.take kids.length = ks2 by rw [← hk2l]; exact List.take_length]
    ((conv=>whnf);repeat(refine Xg ?_;conv=>whnf))
    repeat (refine ⟨rfl, ?_⟩; ((conv=>whnf);repeat(refine Xg ?_;conv=>whnf)))
    refine grd_mk (app_ok rfl rfl (by rw [encNs_length,List.length_take]; omega) (by simp; omega)) ?_
    ((conv=>whnf);repeat(refine Xg ?_;conv=>whnf))
    repeat (refine ⟨rfl, ?_⟩; ((conv=>whnf);repeat(refine Xg ?_;conv=>whnf)))
    exact .mk (i + 1) [(0,0),(1,1),(2,2),(7,3)] (by omega)
     (conv_mk _ rfl ⟨⟨0,_,rfl,rfl,.same (.cons (tree_nn A) .nil)⟩,⟨1,_,rfl,rfl,.same (.cons (tree_nn _) .nil)⟩,⟨2,_,rfl,rfl,.cons (.agg (.cons (.slE rfl (by simp)) .nil)) .nil⟩,
       ⟨7,_,rfl,rfl,by rw [hsn,show encNs ((moreT n A).take (i + 1) ++ [⟨kind,name,lo,hi',ws,lbs,vals,ks2,.mk vk vn vs vks⟩]) = encNs ((moreT n A).take (i + 1)) ++ [.agg [.int .i64 kind,.str name,.int .i64 lo,.int .i64 hi',.il 1 (encI ws),.il 1 (encS lbs),.il 4 (encVs vals),.il 1 (encI ks2),.int .i64 vk,.int .i64 vn,.str vs,.il 4 (encVs vks)]] by simp [encNs,encN]]; exact .snoc rfl (.same (encNs_nn _)) (.agg (.cons (.same _ nn) (.cons (.same _ nn) (.cons (.same _ nn) (.cons (.same _ nn) (.cons (.same _ (.il' (encI_nn _))) (.cons (.same _ (.il' (encS_nn _))) (.cons (.same _ (.il' (encVs_nn _))) (.cons (.fz' (id := 5) rfl rfl (by rw [encI_length,hk2l]; omega) (by rw [List.drop_zero]; exact List.take_of_length_le (by rw [encI_length,hk2l]; omega)) (encI_nn _)) (.cons (.same _ nn) (.cons (.same _ nn) (.cons (.same _ nn) (.cons (.same _ (.il' (encVs_nn _))) .nil)))))))))))))⟩,trivial⟩
      ⟨⟨_,rfl,.ptr 0 0 0 0 rfl⟩,⟨_,rfl,.ptr 1 1 0 0 rfl⟩,⟨_,rfl,.ptr 2 2 0 0 rfl⟩,⟨_,rfl,.w64 (by omega) ⟨by omega,by omega⟩⟩,trivial⟩) (by omega)
  ·have hil : i = A.length := by simp at hb; omega
   subst hil
   ((conv=>whnf);repeat(refine Xg ?_;conv=>whnf))
   have hml := moreT_len n A
   rw [show (moreT n A).take (A.length + 1) = moreT n A from List.take_of_length_le (by omega)]
   obtain ⟨L,hLd⟩ : ∃ L,L = [A,trimT A,moreT n A] := ⟨_,rfl⟩
   have hL3 : L.length = 3 := by rw [hLd]; rfl
   refine ALoop.at nngz (fun i : Nat => i ≤ 3) (fun i => ⟨[(12,.il 1 (encTs L)),(13,.int .i64 i)],[],0,152⟩) (fun i => 3 - i) 0 [] (by simp)
    (conv_pure ⟨⟨_,rfl,.fzR (id := 4) rfl rfl (by
      rw [hLd]
      exact .cons (.same (tree_nn A)) (.cons (.same (tree_nn _)) (.cons (.agg (.cons (.fz' (id := 3) rfl rfl (by rw [encNs_length]; omega) (by rw [List.drop_zero]; exact List.take_of_length_le (by rw [encNs_length]; omega)) (encNs_nn _)) .nil)) .nil))) (by simp [encTs,hL3])⟩,⟨_,rfl,.same _ nn⟩,trivial⟩) ?_
   have hL : ∀ t ∈ L,TreeIn t ∧ validF [] t = 0 ∧ 0 < t.length ∧ t.length ≤ 4096 ∧ Sim A t (A.length - 1) (t.length - 1) := by
    have hpos : 0 < A.length := by omega
    obtain ⟨q1,q2⟩ := trimT_sp hv hok (by omega) hSA
    obtain ⟨q3,q4⟩ := trimT_root hv hok (by omega) hpos
    intro t ht
    rw [hLd] at ht
    simp only [List.mem_cons,List.not_mem_nil,or_false] at ht
    rcases ht with rfl | rfl | rfl
    ·exact ⟨treeIn_of (fun s hs => LB_len hs) hSA (by omega),hv,hpos,by omega,Sim.refl (kidsIn_of hv) _ _ (Nat.lt_succ_self _) (by omega)⟩
    ·exact ⟨treeIn_of (fun s hs => LB_len hs) q1 (by omega),trimT_valid hv hok (by omega),q4,by omega,q3⟩
    ·exact ⟨treeIn_of (fun s hs => LB_len hs) (moreT_sp hv (by omega) hSA hn) (by omega),moreT_valid hv n,by omega,by omega,more_root (kidsIn_of hv) n hpos⟩
   have e3 : (encTs L).length = 3 := by simp [encTs,hL3]
   clear hLd
   intro i hi
   ((conv=>whnf);repeat(refine Xg ?_;conv=>whnf))
   refine bcs_mk (fun hb => ?_) (fun hb => ?_)
   ·have hi3 : i < 3 := by simp at hb; omega
    have hGi := hL _ (List.getElem_mem (show i < L.length by omega))
    have ei := encTs_get (show i < L.length by omega)
    generalize L[i]'_ = a at hGi ei
    ((conv=>whnf);repeat(refine Xg ?_;conv=>whnf))
    refine ALoop.at nngz (fun k : Nat => k ≤ 3) (fun k => ⟨[(12,.il 1 (encTs L)),(13,.int .i64 i),(14,.int .i64 k)],[],0,152⟩) (fun k => 3 - k) 0 [] (by simp)
     (conv_pure ⟨⟨_,rfl,.same _ (.il' (encTs_nn _))⟩,⟨_,rfl,.same _ nn⟩,⟨_,rfl,.same _ nn⟩,trivial⟩) ?_
    intro k hk
    ((conv=>whnf);repeat(refine Xg ?_;conv=>whnf))
    refine bcs_mk (fun hb => ?_) (fun hb => ?_)
    ·have hk3 : k < 3 := by simp at hb; omega
     have hGk := hL _ (List.getElem_mem (show k < L.length by omega))
     have ek := encTs_get (show k < L.length by omega)
     generalize L[k]'_ = b at hGk ek
     obtain ⟨a1,a2,a3,a4,a5⟩ := hGi
     obtain ⟨b1,b2,b3,b4,b5⟩ := hGk
     have h1 := dDiff a1 b1
     have h5 := dSame a1 b1
     have hdl := diff_len a1 b1
     have hds := diff_small (B := b) a1
     obtain ⟨p1,p2⟩ := pair_same a2 b2 a3 a4 b3 b4 (sim_pair a5 b5)
     rw [p1,decide_eq_true rfl] at h5
     generalize diffM a b = d at h1 hdl hds p2
     have ta := tree_nn a
     have tb := tree_nn b
     have td : NN (.il 4 (encMs d)) := .il' (encMs_nn _)
     ((conv=>whnf);repeat(refine Xg ?_;conv=>whnf))
     repeat ((first | refine opt_mk ei ?_ | refine opt_mk ek ?_ | refine ⟨rfl, ?_⟩); ((conv=>whnf);repeat(refine Xg ?_;conv=>whnf)))
     refine h5.use nngz (.cons ta (.cons tb .nil)) nn ?_
     ((conv=>whnf);repeat(refine Xg ?_;conv=>whnf))
     repeat ((first | refine opt_mk ei ?_ | refine opt_mk ek ?_ | refine ⟨rfl, ?_⟩); ((conv=>whnf);repeat(refine Xg ?_;conv=>whnf)))
     refine h1.use nngz (.cons ta (.cons tb .nil)) td ?_
     ((conv=>whnf);repeat(refine Xg ?_;conv=>whnf))
     refine ALoop.at nngz (fun j : Nat => j ≤ d.length) (fun j => ⟨[(12,.il 1 (encTs L)),(13,.int .i64 i),(14,.int .i64 k),(15,.il 4 (encMs d)),(16,.int .i64 j)],[],0,152⟩) (fun j => d.length - j) 0 [] (by simp)
      (conv_pure ⟨⟨_,rfl,.same _ (.il' (encTs_nn _))⟩,⟨_,rfl,.same _ nn⟩,⟨_,rfl,.same _ nn⟩,⟨_,rfl,.same _ td⟩,⟨_,rfl,.same _ nn⟩,trivial⟩) ?_
     intro j hj
     ((conv=>whnf);repeat(refine Xg ?_;conv=>whnf))
     rw [encMs_length]
     refine bcs_mk (fun hb2 => ?_) (fun hb2 => ?_)
     ·have hlt : j < d.length := by simpa using hb2
      have hg := List.getElem?_eq_getElem hlt
      have em : (encMs d)[((j : Nat) : Int).toNat]? = some (encM d[j]) := by simp [encMs_get,hg]
      have hmm := List.getElem_mem hlt
      have p3 := p2 _ hmm
      have hdm := hds _ hmm
      generalize d[j] = m at em p3 hdm
      obtain ⟨mo,mn,opts,same⟩ := m
      simp only at p3 hdm
      obtain ⟨p4,p5⟩ := p3
      ((conv=>whnf);repeat(refine Xg ?_;conv=>whnf))
      refine ALoop.at nngz (fun o : Nat => o ≤ opts.length) (fun o => ⟨[(12,.il 1 (encTs L)),(13,.int .i64 i),(14,.int .i64 k),(15,.il 4 (encMs d)),(16,.int .i64 j),(17,.int .i64 o)],[],0,152⟩) (fun o => opts.length - o) 0 [] (by simp)
       (conv_pure ⟨⟨_,rfl,.same _ (.il' (encTs_nn _))⟩,⟨_,rfl,.same _ nn⟩,⟨_,rfl,.same _ nn⟩,⟨_,rfl,.same _ td⟩,⟨_,rfl,.same _ nn⟩,⟨_,rfl,.same _ nn⟩,trivial⟩) ?_
      intro o ho
      ((conv=>whnf);repeat(refine Xg ?_;conv=>whnf))
      repeat ((first | refine opt_mk em ?_ | refine ⟨rfl, ?_⟩); ((conv=>whnf);repeat(refine Xg ?_;conv=>whnf)))
      refine bcs_mk (fun c1 => ?_) (fun c1 => ?_)
      ·rw [c1]
       have hol : o < opts.length := by simpa [encI_length] using c1
       ((conv=>whnf);repeat(refine Xg ?_;conv=>whnf))
       repeat ((first | refine opt_mk em ?_ | refine ⟨rfl, ?_⟩); ((conv=>whnf);repeat(refine Xg ?_;conv=>whnf)))
       refine bcs_mk (fun c2 => ?_) (fun c2 => ?_)
       ·try rw [c2]
        have hsl : o < same.length := by simpa [encBs_length] using c2
        have g1 : (encI opts)[((o : Nat) : Int).toNat]? = some (.int .i64 (o : Int)) := by
         have := List.getElem?_eq_getElem hol
         rw [p4 _ _ this] at this
         rw [Int.toNat_natCast,encI_get,this]; rfl
        have g2 : (encBs same)[((o : Nat) : Int).toNat]? = some (.bool true) := by
         have := List.getElem?_eq_getElem hsl
         rw [p5 _ _ this] at this
         rw [Int.toNat_natCast,encBs_get,this]; rfl
        ((conv=>whnf);repeat(refine Xg ?_;conv=>whnf))
        repeat ((first | refine opt_mk em ?_ | refine opt_mk g1 ?_ | refine opt_mk g2 ?_ | refine ⟨rfl, ?_⟩); ((conv=>whnf);repeat(refine Xg ?_;conv=>whnf)))
        rw [show ((o : Int) != (o : Int)) = false by simp]
        ((conv=>whnf);repeat(refine Xg ?_;conv=>whnf))
        repeat ((first | refine opt_mk em ?_ | refine opt_mk g1 ?_ | refine opt_mk g2 ?_ | refine ⟨rfl, ?_⟩); ((conv=>whnf);repeat(refine Xg ?_;conv=>whnf)))
        exact .mk (o + 1) [] (by omega) (conv_pure ⟨⟨_,rfl,.same _ (.il' (encTs_nn _))⟩,⟨_,rfl,.same _ nn⟩,⟨_,rfl,.same _ nn⟩,⟨_,rfl,.same _ td⟩,⟨_,rfl,.same _ nn⟩,⟨_,rfl,.w64 (by omega) ⟨by omega,by omega⟩⟩,trivial⟩) (by omega)
       ·try rw [c2]
        ((conv=>whnf);repeat(refine Xg ?_;conv=>whnf))
        exact .mk (j + 1) [] (by omega) (conv_pure ⟨⟨_,rfl,.same _ (.il' (encTs_nn _))⟩,⟨_,rfl,.same _ nn⟩,⟨_,rfl,.same _ nn⟩,⟨_,rfl,.same _ td⟩,⟨_,rfl,.w64 (by omega) ⟨by omega,by omega⟩⟩,trivial⟩) (by omega)
      ·try rw [c1]
       ((conv=>whnf);repeat(refine Xg ?_;conv=>whnf))
       exact .mk (j + 1) [] (by omega) (conv_pure ⟨⟨_,rfl,.same _ (.il' (encTs_nn _))⟩,⟨_,rfl,.same _ nn⟩,⟨_,rfl,.same _ nn⟩,⟨_,rfl,.same _ td⟩,⟨_,rfl,.w64 (by omega) ⟨by omega,by omega⟩⟩,trivial⟩) (by omega)
     ·have hlt : j = d.length := by simp at hb2; omega
      ((conv=>whnf);repeat(refine Xg ?_;conv=>whnf))
      exact .mk (k + 1) [] (by omega) (conv_pure ⟨⟨_,rfl,.same _ (.il' (encTs_nn _))⟩,⟨_,rfl,.same _ nn⟩,⟨_,rfl,.w64 (by omega) ⟨by omega,by omega⟩⟩,trivial⟩) (by omega)
    ·have hk3 : k = 3 := by simp at hb; omega
     ((conv=>whnf);repeat(refine Xg ?_;conv=>whnf))
     exact .mk (i + 1) [] (by omega) (conv_pure ⟨⟨_,rfl,.same _ (.il' (encTs_nn _))⟩,⟨_,rfl,.w64 (by omega) ⟨by omega,by omega⟩⟩,trivial⟩) (by omega)
   ·((conv=>whnf);repeat(refine Xg ?_;conv=>whnf))
    refine ACalls.call0 nngz (acalls_closed 60 (by rw [lives31]; trivial)) .nil ?_
    intro r m' n' hr
    rw [saysTrue_eq hr]
    refine ⟨_,.same _ (.bool true), ?_⟩
    ((conv=>whnf);repeat(refine Xg ?_;conv=>whnf))
    exact fin_pure (.bool _) ⟨rfl,rfl,rfl⟩
end Go.Proofs.YtnookkohfkjbcaaGreatDoor
namespace Go.Proofs.YtnookkohfkjbcaaGreatDoor.DiffItself
open Go.ChangeShapes Go.WideShapes Go.ChangeAt Go.RowKit Go.Lib Go.Ax
theorem own : ownKnob Tryz.prog.godebug = none := by kernel_rfl
theorem laidOut : laidOutB Tryz.prog = true := by kernel_rfl
theorem cells3 : Tryz.prog.cellsOf 3 = 1 := by kernel_rfl
theorem gName : Tryz.prog.globalNamed "strconv.ErrSyntax" = some 0 := by kernel_rfl
theorem gNameR : Tryz.prog.globalNamed "strconv.ErrRange" = some 1 := by kernel_rfl
theorem gNameP : Tryz.prog.globalNamed "internal/strconv.uint64pow10" = some 2 := by kernel_rfl
theorem gType : (Tryz.prog.globals[0]?).map (·.type) = some 96 := by kernel_rfl
theorem gTypeR : (Tryz.prog.globals[1]?).map (·.type) = some 96 := by kernel_rfl
theorem gTypeP : (Tryz.prog.globals[2]?).map (·.type) = some 176 := by kernel_rfl
theorem star : "*" ++ "errors.errorString" = "*errors.errorString" := by decide
theorem named (u : TypeId) (h : Tryz.prog.typeName? 3 u = some "*errors.errorString") : u = 182 :=
 typeName_ptr_named (nm := "errors.errorString") (by rw [star]; kernel_rfl) (by kernel_rfl) (by decide) u (by rw [star]; exact h)
theorem cellsE : Tryz.prog.cellsOf 184 = 1 := by kernel_rfl
theorem cellsS : Tryz.prog.cellsOf 9 = 1 := by kernel_rfl
theorem cellsU : Tryz.prog.cellsOf 134 = 1 := by kernel_rfl
theorem cellsP : Tryz.prog.cellsOf 176 = 20 := by kernel_rfl
def pows : List Int := [1, 10, 100, 1000, 10000, 100000, 1000000, 10000000, 100000000, 1000000000, 10000000000, 100000000000, 1000000000000, 10000000000000, 100000000000000, 1000000000000000, 10000000000000000, 100000000000000000, 1000000000000000000, 10000000000000000000]
theorem vars {W : World} (h : laidMetH Tryz.prog Rows.diffItselfRow.laid W) : ∀ p ∈ gz, VR (fun _ => ⟨0, 0, 0⟩) (fun _ => False) (OX (fun _ => False) (fun _ => ⟨0, 0, 0⟩) []) W (.ip p.2) (.pointer (some ⟨p.1, 0, none⟩)) := by
 have h : laidMet Tryz.prog Rows.diffItselfRow.laid W := h
 have h4 := h.tail.tail.tail.tail
 obtain ⟨a, s, hv, hc, hs, hz⟩ := laid_sentinel (tp := 182) (te := 184) (ts := 9) h4 gName gType Tryz.underlying96 named Tryz.underlying182 Tryz.underlying184 rfl rfl Tryz.underlying9 cellsE cellsS
 have hsp := laid_spot h4 gName hv Tryz.underlying182
 have h3 := h.tail.tail.tail
 obtain ⟨a', s', hv', hc', hs', hz'⟩ := laid_sentinel (tp := 182) (te := 184) (ts := 9) h3 gNameR gTypeR Tryz.underlying96 named Tryz.underlying182 Tryz.underlying184 rfl rfl Tryz.underlying9 cellsE cellsS
 have hsp' := laid_spot h3 gNameR hv' Tryz.underlying182
 have h2 := h.tail.tail
 have htab := tabIs_of_head (k := .u64) (zs := pows) gNameP gTypeP Tryz.underlying176 Tryz.underlying134 cellsU cellsP h2
 intro p hp
 simp only [gz, List.mem_cons, List.not_mem_nil, or_false] at hp
 rcases hp with rfl | rfl | rfl
 ·exact vr_iface_var gName hv hsp
 ·exact vr_iface_var gNameR hv' hsp'
 ·exact vr_tab_var gNameP htab
set_option maxRecDepth 100000 in
theorem contract (H : Type) (enc : TypeId × Value → H) (W : World) (base : Nat) (args : Array Value) (ds gs : List (DataW H)) (before : List MemPlace)
  (hval : ∀ (j : Nat) t v, Tryz.f5.params[j]? = some t → args[j]? = some v → Value.okWide Tryz.prog W .any base t v)
  (hW : DataW.Whole enc Tryz.prog Tryz.f5.params.toList Rows.diffItselfSpec.vars false W args.toList ds gs before) (hL : laidMetH Tryz.prog Rows.diffItselfRow.laid W) :
  Calls Tryz.prog 5 args W fun e W' => ∃ v, e = .returned v ∧ Rows.diffItselfSpec.post enc Tryz.prog Tryz.f5 false true false false W args v W' := by
 have hW' := hW
 obtain ⟨p, q, hA0, hV, rfl, hfz, hnd⟩ := hW
 have hA : DataW.TrodAll enc Tryz.prog W 0 (fun _ => true) true Tryz.f5.params.toList args.toList ds p := hA0
 rw [Tryz.params5] at hA hval
 obtain ⟨v0, vs0, d0, ds0, p0, q0, hargs, rfl, rfl, h0, r0⟩ := trodAll_cons hA
 obtain ⟨v1, vs1, d1, ds1, p1, q1, rfl, rfl, rfl, h1, r1⟩ := trodAll_cons r0
 obtain ⟨rfl, rfl, rfl⟩ := trodAll_nil r1
 obtain rfl : args = #[v0, v1] := by cases args; simp_all
 obtain ⟨rfl, rfl⟩ := trodVars_none hV
 have h0k := h0
 obtain ⟨x0, b0, e0⟩ := vr_ints_of Tryz.underlying22 Tryz.underlying3 cells3 (hval 0 22 v0 rfl rfl) h0
 have h1k := h1
 obtain ⟨x1, rfl, rfl, rfl, hwf1⟩ := open_int Tryz.underlying3 (hval 1 3 v1 rfl rfl) h1
 have b1 : i64 x1 := by
  have e1 : IntKind.i64.min = -9223372036854775808 := rfl
  have e2 : IntKind.i64.max = 9223372036854775807 := rfl
  simp [Lit.wf, e1, e2] at hwf1
  unfold i64
  omega
 clear hA0
 refine ((lawItselfW x0 x1 b0 b1).callsG W [v0, .int .i64 x1] (vars hL) (.cons e0 (.cons (.int _ _) .nil))).mono ?_
 rintro e W' ⟨rfl, hk⟩
 refine ⟨_, rfl, _, _, _, [], p0 ++ ([] ++ []), [], hW', ?_, ?_, ?_, hk.frame _, fun h => by cases h⟩
 ·exact trodAll_cons_mk (shut_bool Tryz.underlying4 _) trodAll_mk0
 ·exact trodAll_cons_mk (Kept.trod laidOut (by kernel_rfl) (of_decide_eq_true (by kernel_rfl)) h0k hk) (trodAll_cons_mk (Kept.trod laidOut (by kernel_rfl) (of_decide_eq_true (by kernel_rfl)) h1k hk) trodAll_mk0)
 ·rfl
noncomputable def laidWorld (os : Os) : World :=
 let N := (World.settled Tryz.prog os).heap.size
 let w0 := World.holding Tryz.prog os ⟨#[
  .cells #[.string ⟨#[105, 110, 118, 97, 108, 105, 100, 32, 115, 121, 110, 116, 97, 120]⟩] 184,
  .cells #[.string ⟨#[118, 97, 108, 117, 101, 32, 111, 117, 116, 32, 111, 102, 32, 114, 97, 110, 103, 101]⟩] 184], #[], []⟩
 let put (h : Array Obj) (g : Nat) (cs : Array Value) : Array Obj := h.modify g fun
  | .cells _ t frozen => .cells cs t frozen
  | o => o
 let nums (d : DataW Unit) : Array Value := match d with
  | .agg ds => (ds.map fun
   | .lit (.int k n) => Value.int k n
   | _ => .bool false).toArray
  | _ => #[]
 let h0 := put (put w0.heap 0 #[.iface 182 (.pointer (some ⟨N, 0, none⟩))]) 1 #[.iface 182 (.pointer (some ⟨N + 1, 0, none⟩))]
 let h1 := put h0 2 (nums Rows.laid_internal_strconv_uint64pow10)
 let h2 := put h1 3 (nums Rows.laid_math_bits_deBruijn32tab)
 let h3 := put h2 4 (nums Rows.laid_math_bits_deBruijn64tab)
 { w0 with heap := h3 }
noncomputable abbrev N0 : Nat := (World.settled Tryz.prog default).heap.size
theorem laid_met (os : Os) (args : Array Value) : laidMet Tryz.prog Rows.diffItselfRow.laid ((laidWorld os).forCall (fun _ _ => 0) ⟨#[], args, []⟩).memory :=
 (LaidIn.of_run (l := Rows.diffItselfRow.laid) [0, 1, 2, 3, 4, N0, N0 + 1] 8 (by kernel_rfl) (by kernel_rfl) (by kernel_rfl) (by kernel_rfl)).met
noncomputable abbrev wargs : Array Value := #[.slice none 0 0, .int .i64 0]
theorem reads (os : Os) {H : Type} (enc : TypeId × Value → H) : ∃ places, DataW.whole enc Tryz.prog ((laidWorld os).forCall (fun _ _ => 0) ⟨#[], wargs, []⟩).memory Tryz.f5.params.toList Rows.diffItselfSpec.vars false wargs.toList 8 = some ([.nil, .lit (.int .i64 0)], [], places) :=
 ⟨[], by kernel_rfl⟩
set_option maxRecDepth 100000 in
theorem lifted (os : Os) (started : os.Started) (H : Type) (enc : TypeId × Value → H) (F : Stop.Interp) :
  ReturnsInHanded {} Tryz.checked os 5 .any ((OpenSpec.ofChange Rows.diffItselfSpec).preRow enc Tryz.prog Tryz.f5 Rows.diffItselfRow.domain false Rows.diffItselfRow.laid) (((OpenSpec.ofChange Rows.diffItselfSpec).at F).post enc Tryz.prog Tryz.f5 false true false false) := by
 obtain ⟨places, hx⟩ := reads os enc
 refine returnsInHanded_of_row (C := Tryz.checked) (s := OpenSpec.ofChange Rows.diffItselfSpec) own started (by kernel_rfl) Tryz.func5
  (witness_row_atRef (enc := enc) (C := Tryz.checked) false (laidWorld os) wargs rfl (by kernel_rfl) (by kernel_rfl) (by kernel_rfl)
   (OpenSpec.preRow_of_cond 8 hx (by kernel_rfl) (fun k hk => by cases hk) (by kernel_rfl) (laid_met os _))) ?_
 intro W base args ds gs before hval hW _ _ _ hL _ _
 exact contract H enc W base args ds gs before hval hW hL
theorem said : Rows.DiffItselfSaid :=
 OpenClaim.holds_of_cond 5 Tryz.f5 rfl rfl rfl rfl rfl rfl rfl ⟨rfl, rfl, rfl, rfl, rfl⟩ rfl rfl rfl rfl rfl (by kernel_rfl) Tryz.func5 (by kernel_rfl)
  (of_decide_eq_true (by kernel_rfl)) (by unfold Func.isWrapper; first | (rw [if_pos (by decide +kernel)]; kernel_rfl) | (rw [if_neg (by decide +kernel)]; exact ⟨rfl, rfl⟩))
  (fun os started H enc _ F => by rw [OpenClaim.pre_eq_preRow]; exact lifted os started H enc F)
theorem plain (f : FuncId) (fn : Func) (hf : Tryz.pinned.checked.prog.funcNamed "refuter/refuterlaw31.DiffItself" = some f) (hfn : Tryz.pinned.checked.prog.funcs[f]? = some fn) :
  true = Tryz.pinned.checked.prog.looks [] ∧ ∀ (j : Nat) t, fn.params[j]? = some t → Tryz.pinned.checked.prog.wantsStandIn t = false := by
 obtain rfl : f = 5 := Option.some.inj ((show Tryz.prog.funcNamed "refuter/refuterlaw31.DiffItself" = some 5 by kernel_rfl).symm.trans hf) |>.symm
 obtain rfl : fn = Tryz.f5 := (Option.some.inj (Tryz.func5.symm.trans hfn)).symm
 refine ⟨by kernel_rfl, fun j t ht => ?_⟩
 rw [Tryz.params5] at ht
 have hTI : Tryz.prog.wantsStandIn 22 = false := by kernel_rfl
 have hTi : Tryz.prog.wantsStandIn 3 = false := by kernel_rfl
 have hm := Array.mem_of_getElem? ht
 simp at hm
 repeat' (first | (rw [(hm : t = 22)]; exact hTI) | (rw [(hm : t = 3)]; exact hTi) | rcases hm with hm | hm)
theorem card : Rows.DiffItselfCardSaid :=
 Claim7.holds_tied_plain_at .later [] _ _ _ _ said (fun _ h => by cases h) (by kernel_rfl) (fun _ h => by cases h) diffItself_row_tie rfl ⟨rfl, rfl⟩ (by kernel_rfl) rfl plain (by kernel_rfl)
end Go.Proofs.YtnookkohfkjbcaaGreatDoor.DiffItself
