/- A part of the proof: DSort. -/
import Derived.Test.YtoanjpeoclkjgaaDoorAxDVals
namespace Go.Proofs.YtoanjpeoclkjgaaDoor
open Go Go.Ax Go.Proofs
set_option maxRecDepth 100000

theorem sc2 (k : Int) (b : Bool) : Sc (.tup [.int .i64 k, .bool b]) := .tup _ fun j c h => by
  rcases j with _ | _ | j <;> simp at h <;> subst h
  · exact .int _ _
  · exact .bool _

/-- 'refuterref10.Sort'. -/
theorem rSort (l : List Val) (hl : l.length ≤ 4294967296) (hok : ∀ a ∈ l, okV a) :
    PureC Tryd.prog [] 4 [.il 4 (encVs l)] (.il 4 (encVs (sortV l))) := by
  have nl : NN (.il 4 (encVs l)) := .il' (encVs_nn l)
  refine acalls_run nnΓ Tryd.func4 rfl ?_
  conv => whnf
  refine AWp.ph 27 4 ?_
  refine AWp.loopAt nnΓ (fun x : Nat × List Val => x.1 ≤ l.length ∧ x.2 = sortV (l.take x.1))
    (fun x => ⟨[(0, .il 4 (encVs l)), (3, .sl 0 0 x.2.length), (4, .int .i64 x.1)], [(0, .row 27 4 (encVs x.2))], 1, 41⟩)
    (fun x => l.length - x.1) (0, []) [(0, 0)] ⟨by simp, by simp [sortV]⟩
    (conv_mk _ rfl ⟨⟨0, _, rfl, rfl, .nil⟩, trivial⟩ ⟨⟨_, rfl, .same _ nl⟩, ⟨_, rfl, .nslk 0 0 _ rfl rfl⟩, ⟨_, rfl, .same _ (.int _ _)⟩, trivial⟩) ?_
  rintro ⟨k, out⟩ ⟨h1, h2⟩
  dsimp only at h1 h2 ⊢
  have hout : out.length ≤ k := by rw [h2]; have := sortV_length (l.take k); simp at this; omega
  have el := encVs_length out
  have hoko : ∀ a ∈ out, okV a := fun a ha => by rw [h2] at ha; exact hok a (List.mem_of_mem_take (sortV_mem ha))
  conv => whnf
  refine bcs_mk (fun h => ?_) (fun h => ?_)
  · have hk : k < l.length := by rw [encVs_length] at h; simpa using h
    have e := enc_at hk
    obtain ⟨⟨ak, an, az, aks⟩, hv⟩ : ∃ a, a = l[k] := ⟨_, rfl⟩
    rw [← hv] at e
    have hmem : Val.mk ak an az aks ∈ l := by rw [hv]; exact List.getElem_mem hk
    have hnext : sortV (l.take (k + 1)) = insV out (.mk ak an az aks) := by
      rw [List.take_succ_eq_append_getElem hk, sortV_snoc, ← h2, hv]
    conv => whnf
    refine opt_mk e ?_
    conv => whnf
    refine (rFind out (.mk ak an az aks) (by omega) hoko).lend nnΓ (.cons (.fz' rfl rfl (by rw [encVs_length]; omega) (by rw [← encVs_length]; simp) (encVs_nn out)) (.cons (.same _ (encV_nn (.mk ak an az aks))) .nil)) (sc2 _ _) ?_
    have hle := findV_le out (.mk ak an az aks)
    have hins : insV out (.mk ak an az aks) = if (findV out (.mk ak an az aks)).2 then out else out.take (findV out (.mk ak an az aks)).1 ++ .mk ak an az aks :: out.drop (findV out (.mk ak an az aks)).1 := rfl
    generalize findV out (.mk ak an az aks) = f at *
    obtain ⟨p, b⟩ := f
    dsimp only at hle hins ⊢
    cases b with
    | true =>
      conv => whnf
      rw [if_pos rfl] at hins
      exact .mk (k + 1, out) [(0, 0)] ⟨by simp only; omega, by rw [← hins]; exact hnext.symm⟩ (conv_mk _ rfl ⟨⟨0, _, rfl, rfl, .same (encVs_nn _)⟩, trivial⟩ ⟨⟨_, rfl, .same _ nl⟩, ⟨_, rfl, .sl 0 0 0 _ rfl⟩, ⟨_, rfl, .eq (.int _ _) (by rw [wrap64 ⟨by omega, by omega⟩]; rfl)⟩, trivial⟩) (by simp only; omega)
    | false =>
      rw [if_neg (by simp)] at hins
      cases p with
      | zero =>
        conv => whnf
        repeat (first
          | (refine ⟨rfl, ?_⟩; conv => whnf)
          | (refine opt_mk e ?_; conv => whnf)
          | (refine grd_mk (sl_ok (by omega) (by omega) (by omega)) ?_; conv => whnf)
          | (refine grd_mk (src_ok (by first | omega | (simp only [List.length_cons, List.length_take, List.length_drop, List.length_append, List.length_nil, encVs_length]; omega) | simp only [List.length_cons, List.length_take, List.length_drop, List.length_append, List.length_nil, encVs_length])) ?_; conv => whnf)
          | (refine grd_mk (app_nil rfl (by first | omega | (simp only [List.length_cons, List.length_take, List.length_drop, List.length_append, List.length_nil, encVs_length]; omega) | simp only [List.length_cons, List.length_take, List.length_drop, List.length_append, List.length_nil, encVs_length])) ?_; conv => whnf)
          | (refine grd_mk (app_ok rfl rfl (by first | rfl | omega | (simp only [List.length_cons, List.length_take, List.length_drop, List.length_append, List.length_nil, encVs_length]; omega) | simp only [List.length_cons, List.length_take, List.length_drop, List.length_append, List.length_nil, encVs_length]) (by first | omega | (simp only [List.length_cons, List.length_take, List.length_drop, List.length_append, List.length_nil, encVs_length]; omega) | simp only [List.length_cons, List.length_take, List.length_drop, List.length_append, List.length_nil, encVs_length])) ?_; conv => whnf))
        have hrow : AV.agg [.int .i64 ak, .int .i64 an, .str az, .il 4 (encVs aks)] :: List.take 0 [] ++ List.take (out.length - (0 : Int).toNat) (List.drop (0 + (0 : Int).toNat) (encVs out)) = encVs (insV out (.mk ak an az aks)) := by
          rw [hins]
          simp [encVs_map, encV]
          exact List.take_of_length_le (by simp)
        exact .mk (k + 1, insV out (.mk ak an az aks)) [(18, 0)] ⟨by simp only; omega, hnext.symm⟩ (conv_mk _ rfl ⟨⟨18, _, rfl, rfl, .eq (encVs_nn _) hrow⟩, trivial⟩ ⟨⟨_, rfl, .same _ nl⟩, ⟨_, rfl, .slE rfl (by have := congrArg List.length hrow; rw [List.length_append, encVs_length] at this; exact this)⟩, ⟨_, rfl, .eq (.int _ _) (by rw [wrap64 ⟨by omega, by omega⟩]; rfl)⟩, trivial⟩) (by simp only; omega)
      | succ p =>
        cases out with
        | nil => simp at hle
        | cons o or =>
          have hle' : p + 1 ≤ or.length + 1 := hle
          have hout' : or.length + 1 ≤ k := hout
          conv => whnf
          repeat (first
            | (refine ⟨rfl, ?_⟩; conv => whnf)
            | (refine opt_mk e ?_; conv => whnf)
            | (refine grd_mk (sl_ok (by omega) (by omega) (by omega)) ?_; conv => whnf)
            | (refine grd_mk (src_ok (by first | omega | (simp only [List.length_cons, List.length_take, List.length_drop, List.length_append, List.length_nil, encVs_length]; omega) | simp only [List.length_cons, List.length_take, List.length_drop, List.length_append, List.length_nil, encVs_length])) ?_; conv => whnf)
            | (refine grd_mk (app_nil rfl (by first | omega | (simp only [List.length_cons, List.length_take, List.length_drop, List.length_append, List.length_nil, encVs_length]; omega) | simp only [List.length_cons, List.length_take, List.length_drop, List.length_append, List.length_nil, encVs_length])) ?_; conv => whnf)
            | (refine grd_mk (app_ok rfl rfl (by first | rfl | omega | (simp only [List.length_cons, List.length_take, List.length_drop, List.length_append, List.length_nil, encVs_length]; omega) | simp only [List.length_cons, List.length_take, List.length_drop, List.length_append, List.length_nil, encVs_length]) (by first | omega | (simp only [List.length_cons, List.length_take, List.length_drop, List.length_append, List.length_nil, encVs_length]; omega) | simp only [List.length_cons, List.length_take, List.length_drop, List.length_append, List.length_nil, encVs_length])) ?_; conv => whnf))
          have hrow : encV o :: List.take p (encVs or) ++ List.take 1 (List.drop 0 [AV.agg [.int .i64 ak, .int .i64 an, .str az, .il 4 (encVs aks)]]) ++ List.take ((o :: or).length - (((p + 1 : Nat) : Int)).toNat) (List.drop (0 + ((p + 1 : Nat) : Int).toNat) (encVs (o :: or))) = encVs (insV (o :: or) (.mk ak an az aks)) := by
            rw [hins]
            simp [encVs_map, encV, List.map_take, List.map_drop]
            exact List.take_of_length_le (by simp)
          exact .mk (k + 1, insV (o :: or) (.mk ak an az aks)) [(19, 0)] ⟨by simp only; omega, hnext.symm⟩ (conv_mk _ rfl ⟨⟨19, _, rfl, rfl, .eq (encVs_nn _) hrow⟩, trivial⟩ ⟨⟨_, rfl, .same _ nl⟩, ⟨_, rfl, .slE rfl (by have := congrArg List.length hrow; rw [List.length_append, List.length_append, encVs_length] at this; exact this)⟩, ⟨_, rfl, .eq (.int _ _) (by rw [wrap64 ⟨by omega, by omega⟩]; rfl)⟩, trivial⟩) (by simp only; omega)
  · have hk : k = l.length := by rw [encVs_length] at h; simp at h; omega
    conv => whnf
    rw [hk, List.take_length] at h2
    refine fin_cv (.fz' rfl rfl (by rw [encVs_length]; omega) (by rw [← encVs_length]; simp) (encVs_nn out)) ⟨by rw [h2], rfl, rfl⟩

/-- 'refuterref10.Value'. -/
theorem rValue (l : List Int) (at_ : Int) :
    ACalls Tryd.prog [] 6 [.il 1 (encI l), .int .i64 at_] [] 0 fun r m n => ∃ v, r = encV v ∧ genV 2 v ∧ m = [] ∧ n = 0 := by
  refine acalls_run nnΓ Tryd.func6 rfl ?_
  conv => whnf
  generalize hq : (if ((encI l).length : Int) < (if 0 > at_ then 0 else at_) then ((encI l).length : Int) else (if 0 > at_ then 0 else at_)) = q
  have hq1 : 0 ≤ q ∧ q ≤ l.length := by
    rw [encI_length] at hq
    split at hq
    · omega
    · split at hq <;> omega
  have hrow : List.take ((encI l).length - q.toNat) (List.drop q.toNat (encI l)) = encI (l.drop q.toNat) := by
    rw [List.take_of_length_le (by simp), encI, encI, List.map_drop]
  refine grd_mk (decide_eq_true hq1.1) ?_
  conv => whnf
  refine grd_mk (sl_ok (by rw [encI_length]; omega) (Nat.le_refl _) (Nat.le_refl _)) ?_
  conv => whnf
  rw [hrow]
  refine ACalls.use1 nnΓ (gValue (l.drop q.toNat) 2 0 (by omega) (by simp [genCost])) 1 rfl (gNN _ 0) (.cons (.ptr 1 0 0 0 rfl) (.cons (.same _ (.int _ _)) .nil)) ?_
  rintro r m n' ⟨⟨vk, vn, vs, vks⟩, j', rfl, hv, g1, g2, rfl⟩
  refine ⟨_, rfl, encV_nn _, gNN _ j', ?_⟩
  conv => whnf
  exact fin_pure (r := encV (.mk vk vn vs vks)) (encV_nn _) ⟨_, rfl, hv, rfl, rfl⟩

/-- 'refuterref10.Values'. -/
theorem rValues (l : List Int) (most : Nat) (hm : most ≤ 1000) :
    ACalls Tryd.prog [] 5 [.il 1 (encI l), .int .i64 most] [] 0 fun r m n => ∃ vs, r = .il 4 (encVs vs) ∧ vs.length ≤ most ∧ (∀ v ∈ vs, genV 2 v) ∧ m = [] ∧ n = 0 := by
  have hc2 : genCost 2 = 96 := rfl
  refine acalls_run nnΓ Tryd.func5 rfl ?_
  conv => whnf
  rw [wrap64 (n := (most : Int) + 1) ⟨by omega, by omega⟩]
  refine gNextUse (i := 0) (l := l) ((most : Int) + 1) (by omega) (by omega) (by omega) rfl fun n h1 h2 => ?_
  conv => whnf
  refine AWp.ph 27 4 ?_
  refine AWp.loopAt nnΓ (fun x : List Val × Nat => (x.1.length : Int) ≤ n ∧ (∀ v ∈ x.1, genV 2 v) ∧ x.2 ≤ 1 + x.1.length * genCost 2)
    (fun x => ⟨[(5, .ptr 0 0 0), (6, .sl 1 0 x.1.length), (7, .int .i64 n), (8, .int .i64 x.1.length)], [(0, gB l x.2), (1, .row 27 4 (encVs x.1))], 2, 27⟩)
    (fun x => n.toNat - x.1.length) ([], 1) [(0, 0), (1, 1)] ⟨by simpa using h1, by simp, by simp⟩
    (conv_mk _ rfl ⟨⟨0, _, rfl, rfl, .same (gNN l _)⟩, ⟨1, _, rfl, rfl, .nil⟩, trivial⟩ ⟨⟨_, rfl, .ptr 0 0 0 0 rfl⟩, ⟨_, rfl, .nslk 1 1 _ rfl rfl⟩, ⟨_, rfl, .same _ (.int _ _)⟩, ⟨_, rfl, .same _ (.int _ _)⟩, trivial⟩) ?_
  rintro ⟨ks, j⟩ ⟨k1, k2, k3⟩
  dsimp only at k1 k2 k3 ⊢
  rw [hc2] at k3
  conv => whnf
  refine bcs_mk (fun h => ?_) (fun h => ?_)
  · have hlt : (ks.length : Int) < n := by simpa using h
    conv => whnf
    refine ACalls.use1 nnΓ (gValue l 2 j (by omega) (by omega)) 0 rfl (gNN l j) (.cons (.ptr 0 0 0 0 rfl) (.cons (.same _ (.int _ _)) .nil)) ?_
    rintro r m n' ⟨⟨vk, vn, vs, vks⟩, j', rfl, hv, g1, g2, rfl⟩
    refine ⟨_, rfl, encV_nn _, gNN l j', ?_⟩
    conv => whnf
    refine grd_mk (app_ok rfl rfl (by rw [encVs_length]) (by simp; omega)) ?_
    conv => whnf
    have hlen : ks.length + (List.take 1 (List.drop 0 [encV (Val.mk vk vn vs vks)])).length = (ks ++ [Val.mk vk vn vs vks]).length := by simp
    have hrow : encVs ks ++ List.take 1 (List.drop 0 [encV (Val.mk vk vn vs vks)]) = encVs (ks ++ [Val.mk vk vn vs vks]) := by simp [encVs_map]
    refine .mk (ks ++ [Val.mk vk vn vs vks], j') [(0, 0), (3, 1)] ⟨by simp; omega, fun v hm => ?_, ?_⟩
      (conv_mk _ rfl ⟨⟨0, _, rfl, rfl, .same (gNN l j')⟩, ⟨3, _, rfl, rfl, .eq (encVs_nn _) hrow⟩, trivial⟩
        ⟨⟨_, rfl, .ptr 0 0 0 0 rfl⟩, ⟨_, rfl, .slE rfl hlen⟩, ⟨_, rfl, .same _ (.int _ _)⟩, ⟨_, rfl, .eq (.int _ _) ?_⟩, trivial⟩) (by simp; omega)
    · rcases List.mem_append.1 hm with hm | hm
      · exact k2 v hm
      · simp at hm; rw [hm]; exact hv
    · simp only [List.length_append, List.length_singleton, hc2]; omega
    · rw [wrap64 ⟨by omega, by omega⟩]; simp
  · conv => whnf
    exact fin_cv (.fz' rfl rfl (by rw [encVs_length]; omega) (by rw [← encVs_length]; simp) (encVs_nn ks)) ⟨ks, rfl, by omega, k2, rfl, rfl⟩

theorem nearV_found {l : List Val} {v : Val} (h : (findV l v).2 = true) : nearV l v = ((findV l v).1, true) := by simp [nearV, h]
theorem nearV_first {l : List Val} {v : Val} (h : (findV l v).2 = false) (h0 : (findV l v).1 = 0) : nearV l v = (0, false) := by simp [nearV, h, h0]
theorem nearV_last {l : List Val} {v : Val} (h : (findV l v).2 = false) (h0 : (findV l v).1 ≠ 0) (h1 : (findV l v).1 = l.length) : nearV l v = ((findV l v).1 - 1, false) := by
  have : l[(findV l v).1]? = none := List.getElem?_eq_none (by omega)
  simp [nearV, h, h0, this]
theorem nearV_mid {l : List Val} {v a b : Val} (h : (findV l v).2 = false) (h0 : (findV l v).1 ≠ 0) (ha : l[(findV l v).1 - 1]? = some a) (hb : l[(findV l v).1]? = some b) :
    nearV l v = if kindV a = 0 ∧ kindV v = 0 ∧ kindV b = 0 ∧ nearC (numV a) (numV v) (numV b) = true then ((findV l v).1 - 1, false) else ((findV l v).1, false) := by
  simp [nearV, h, h0, ha, hb]

theorem ntup (k : Int) (b : Bool) : NN (.tup [.int .i64 k, .bool b]) := .tup' (.cons (.int _ _) (.cons (.bool _) .nil))

/-- 'diff.Nearest'. -/
theorem dNearest (l : List Val) (v : Val) (hl : l.length ≤ 4294967296) (hok : ∀ a ∈ l, okV a) (hs : Srt l) :
    PureC Tryd.prog [] 7 [.il 4 (encVs l), encV v] (.tup [.int .i64 (nearV l v).1, .bool (nearV l v).2]) := by
  obtain ⟨vk, vn, vs, vks⟩ := v
  have nl : NN (.il 4 (encVs l)) := .il' (encVs_nn l)
  refine acalls_run nnΓ Tryd.func7 rfl ?_
  conv => whnf
  refine (vFind l (.mk vk vn vs vks) hl hok hs).use nnΓ (.cons nl (.cons (encV_nn (.mk vk vn vs vks)) .nil)) (ntup _ _) ?_
  have e1 := @nearV_found l (.mk vk vn vs vks)
  have e2 := @nearV_first l (.mk vk vn vs vks)
  have e3 := @nearV_last l (.mk vk vn vs vks)
  have e4 := @nearV_mid l (.mk vk vn vs vks)
  have hle := findV_le l (.mk vk vn vs vks)
  generalize findV l (.mk vk vn vs vks) = f at *
  obtain ⟨p, b⟩ := f
  dsimp only at e1 e2 e3 e4 hle ⊢
  cases b with
  | true =>
    conv => whnf
    exact fin_pure (ntup _ _) ⟨by rw [e1 rfl], rfl, rfl⟩
  | false =>
    conv => whnf
    refine bcs_mk (fun h => ?_) (fun h => ?_)
    · have h : p = 0 := by simpa using h
      conv => whnf
      exact fin_pure (ntup _ _) ⟨by rw [e2 rfl h]; rfl, rfl, rfl⟩
    have h0 : p ≠ 0 := by simpa using h
    conv => whnf
    refine bcs_mk (fun h => ?_) (fun h => ?_)
    · have h1 : p = l.length := by rw [encVs_length] at h; simp at h; omega
      conv => whnf
      exact fin_pure (ntup _ _) ⟨by rw [e3 rfl h0 h1, wrap64 ⟨by omega, by omega⟩]; congr 3; omega, rfl, rfl⟩
    have h1 : p < l.length := by rw [encVs_length] at h; simp at h; omega
    have hw : IntKind.i64.wrap ((p : Int) - 1) = ((p - 1 : Nat) : Int) := by rw [wrap64 ⟨by omega, by omega⟩]; omega
    have c1 := enc_at (show p - 1 < l.length by omega)
    have c2 := enc_at h1
    have g1 := List.getElem?_eq_getElem (show p - 1 < l.length by omega)
    have g2 := List.getElem?_eq_getElem h1
    generalize l[p - 1] = a at *
    generalize l[p] = b at *
    obtain ⟨ak, an, az, aks⟩ := a
    obtain ⟨bk, bn, bz, bks⟩ := b
    have hmid := e4 rfl h0 g1 g2
    conv => whnf
    rw [hw]
    conv => whnf
    refine opt_mk c1 ?_
    conv => whnf
    refine opt_mk c2 ?_
    conv => whnf
    repeat (first | (refine ⟨rfl, ?_⟩; conv => whnf) | (refine opt_mk c1 ?_; conv => whnf) | (refine opt_mk c2 ?_; conv => whnf))
    have fin1 : nearV l (.mk vk vn vs vks) = (p, false) → ∀ m n, Fini 0 (fun r' m n => r' = .tup [.int .i64 (nearV l (.mk vk vn vs vks)).1, .bool (nearV l (.mk vk vn vs vks)).2] ∧ m = [] ∧ n = 0) (.tup [.int .i64 p, .bool false]) m n :=
      fun h m n => fin_pure (ntup _ _) ⟨by rw [h], rfl, rfl⟩
    refine bcs_mk (fun q1 => ?_) (fun q1 => ?_)
    · have q1' : ak = 0 := by simpa using q1
      rw [q1]
      conv => whnf
      refine bcs_mk (fun q2 => ?_) (fun q2 => ?_)
      · have q2' : vk = 0 := by simpa using q2
        rw [q2]
        conv => whnf
        refine bcs_mk (fun q3 => ?_) (fun q3 => ?_)
        · have q3' : bk = 0 := by simpa using q3
          rw [q3]
          conv => whnf
          refine bcs_mk (fun q4 => ?_) (fun q4 => ?_)
          · conv => whnf
            refine fin_pure (ntup _ _) ⟨?_, rfl, rfl⟩
            rw [hmid, if_pos ⟨q1', q2', q3', q4⟩, hw]
          · conv => whnf
            exact fin1 (by rw [hmid, if_neg (fun h => by rw [show nearC (numV (.mk ak an az aks)) (numV (.mk vk vn vs vks)) (numV (.mk bk bn bz bks)) = false from q4] at h; simp at h)]) _ _
        · rw [q3]
          conv => whnf
          exact fin1 (by rw [hmid, if_neg (fun h => by rw [show kindV (.mk bk bn bz bks) = bk from rfl] at h; simp at q3; exact q3 h.2.2.1)]) _ _
      · rw [q2]
        conv => whnf
        exact fin1 (by rw [hmid, if_neg (fun h => by rw [show kindV (.mk vk vn vs vks) = vk from rfl] at h; simp at q2; exact q2 h.2.1)]) _ _
    · rw [q1]
      conv => whnf
      exact fin1 (by rw [hmid, if_neg (fun h => by rw [show kindV (.mk ak an az aks) = ak from rfl] at h; simp at q1; exact q1 h.1)]) _ _

/-- 'refuterref31.Nearest'. -/
theorem rNearest (l : List Val) (v : Val) (hl : l.length ≤ 4294967296) (hok : ∀ a ∈ l, okV a) :
    PureC Tryd.prog [] 8 [.il 4 (encVs l), encV v] (.tup [.int .i64 (nearV l v).1, .bool (nearV l v).2]) := by
  obtain ⟨vk, vn, vs, vks⟩ := v
  have nl : NN (.il 4 (encVs l)) := .il' (encVs_nn l)
  refine acalls_run nnΓ Tryd.func8 rfl ?_
  conv => whnf
  refine (rFind l (.mk vk vn vs vks) hl hok).use nnΓ (.cons nl (.cons (encV_nn (.mk vk vn vs vks)) .nil)) (ntup _ _) ?_
  have e1 := @nearV_found l (.mk vk vn vs vks)
  have e2 := @nearV_first l (.mk vk vn vs vks)
  have e3 := @nearV_last l (.mk vk vn vs vks)
  have e4 := @nearV_mid l (.mk vk vn vs vks)
  have hle := findV_le l (.mk vk vn vs vks)
  generalize findV l (.mk vk vn vs vks) = f at *
  obtain ⟨p, b⟩ := f
  dsimp only at e1 e2 e3 e4 hle ⊢
  cases b with
  | true =>
    conv => whnf
    exact fin_pure (ntup _ _) ⟨by rw [e1 rfl], rfl, rfl⟩
  | false =>
    conv => whnf
    refine bcs_mk (fun h => ?_) (fun h => ?_)
    · have h1 : p = l.length := by rw [encVs_length] at h; simp at h; omega
      conv => whnf
      refine fin_pure (ntup _ _) ⟨?_, rfl, rfl⟩
      rw [wrap64 ⟨by omega, by omega⟩]
      by_cases h0 : p = 0
      · rw [e2 rfl h0]
        split
        · omega
        · rfl
      · rw [e3 rfl h0 h1]
        split
        · congr 3
          omega
        · congr 3
          omega
    have h1 : p < l.length := by rw [encVs_length] at h; simp at h; omega
    conv => whnf
    refine bcs_mk (fun h => ?_) (fun h => ?_)
    · have h : p = 0 := by simpa using h
      conv => whnf
      exact fin_pure (ntup _ _) ⟨by rw [e2 rfl h]; rfl, rfl, rfl⟩
    have h0 : p ≠ 0 := by simpa using h
    have hw : IntKind.i64.wrap ((p : Int) - 1) = ((p - 1 : Nat) : Int) := by rw [wrap64 ⟨by omega, by omega⟩]; omega
    have c1 := enc_at (show p - 1 < l.length by omega)
    have c2 := enc_at h1
    have g1 := List.getElem?_eq_getElem (show p - 1 < l.length by omega)
    have g2 := List.getElem?_eq_getElem h1
    generalize l[p - 1] = a at *
    generalize l[p] = b at *
    obtain ⟨ak, an, az, aks⟩ := a
    obtain ⟨bk, bn, bz, bks⟩ := b
    have hmid := e4 rfl h0 g1 g2
    have fin1 : nearV l (.mk vk vn vs vks) = (p, false) → ∀ m n, Fini 0 (fun r' m n => r' = .tup [.int .i64 (nearV l (.mk vk vn vs vks)).1, .bool (nearV l (.mk vk vn vs vks)).2] ∧ m = [] ∧ n = 0) (.tup [.int .i64 p, .bool false]) m n :=
      fun h m n => fin_pure (ntup _ _) ⟨by rw [h], rfl, rfl⟩
    conv => whnf
    rw [hw]
    conv => whnf
    refine opt_mk c1 ?_
    conv => whnf
    refine bcs_mk (fun q1 => ?_) (fun q1 => ?_)
    · have q1' : ak = 0 := by simpa using q1
      rw [q1]
      conv => whnf
      refine bcs_mk (fun q2 => ?_) (fun q2 => ?_)
      · have q2' : vk = 0 := by simpa using q2
        rw [q2]
        conv => whnf
        refine opt_mk c2 ?_
        conv => whnf
        refine bcs_mk (fun q3 => ?_) (fun q3 => ?_)
        · have q3' : bk = 0 := by simpa using q3
          conv => whnf
          rw [hw]
          conv => whnf
          refine opt_mk c1 ?_
          conv => whnf
          refine opt_mk c2 ?_
          conv => whnf
          refine bcs_mk (fun q4 => ?_) (fun q4 => ?_)
          · conv => whnf
            refine fin_pure (ntup _ _) ⟨?_, rfl, rfl⟩
            rw [hmid, if_pos ⟨q1', q2', q3', q4⟩, hw]
          · conv => whnf
            exact fin1 (by rw [hmid, if_neg (fun h => by rw [show nearC (numV (.mk ak an az aks)) (numV (.mk vk vn vs vks)) (numV (.mk bk bn bz bks)) = false from q4] at h; simp at h)]) _ _
        · conv => whnf
          exact fin1 (by rw [hmid, if_neg (fun h => by rw [show kindV (.mk bk bn bz bks) = bk from rfl] at h; simp at q3; exact q3 h.2.2.1)]) _ _
      · rw [q2]
        conv => whnf
        exact fin1 (by rw [hmid, if_neg (fun h => by rw [show kindV (.mk vk vn vs vks) = vk from rfl] at h; simp at q2; exact q2 h.2.1)]) _ _
    · rw [q1]
      conv => whnf
      exact fin1 (by rw [hmid, if_neg (fun h => by rw [show kindV (.mk ak an az aks) = ak from rfl] at h; simp at q1; exact q1 h.1)]) _ _
end Go.Proofs.YtoanjpeoclkjgaaDoor
