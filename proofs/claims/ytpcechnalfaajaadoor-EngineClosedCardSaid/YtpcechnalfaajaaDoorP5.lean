/- Part 5 of the proof: V11, V12, U14, V13, V14, U16, V15, U17, V16. -/
import Derived.Test.YtpcechnalfaajaaDoorP4
import Derived.RangeFuncRecord
/- Trees of an index, in plain Lean: what look-up and put do to what they hold. -/
namespace Go.Proofs.YtpcechnalfaajaaDoor
open Go Go.Proofs

abbrev KV := Num × Int
def getL (key : Num) : List KV → Option Int
  | [] => none
  | (k, v) :: t => if k = key then some v else getL key t
def putL (key : Num) (v : Int) : List KV → List KV
  | [] => [(key, v)]
  | (k', v') :: t => if k' = key then (key, v) :: t else if key.toNat < k'.toNat then (key, v) :: (k', v') :: t else (k', v') :: putL key v t
def Srt (l : List KV) : Prop := l.Pairwise fun a b => a.1.toNat < b.1.toNat
theorem getL_app (key : Num) (A B : List KV) (h : ∀ p ∈ A, p.1 ≠ key) : getL key (A ++ B) = getL key B := by
  induction A with
  | nil => rfl
  | cons p t ih =>
    obtain ⟨k, v⟩ := p
    have h0 : k ≠ key := h (k, v) (List.mem_cons_self ..)
    show (if k = key then some v else getL key (t ++ B)) = _
    rw [if_neg h0, ih fun p hp => h p (List.mem_cons_of_mem _ hp)]
theorem getL_no (key : Num) (A : List KV) (h : ∀ p ∈ A, p.1 ≠ key) : getL key A = none := by
  have := getL_app key A [] h; rw [List.append_nil] at this; rw [this]; rfl
theorem getL_app_r (key : Num) (A B : List KV) (h : ∀ p ∈ B, p.1 ≠ key) : getL key (A ++ B) = getL key A := by
  induction A with
  | nil => exact getL_no key B h
  | cons p t ih =>
    obtain ⟨k, v⟩ := p
    show (if k = key then some v else getL key (t ++ B)) = (if k = key then some v else getL key t)
    rw [ih]
theorem putL_lt (key : Num) (v : Int) (A B : List KV) (h : ∀ p ∈ A, p.1.toNat < key.toNat) : putL key v (A ++ B) = A ++ putL key v B := by
  induction A with
  | nil => rfl
  | cons p t ih =>
    obtain ⟨k, w⟩ := p
    have h0 : k.toNat < key.toNat := h (k, w) (List.mem_cons_self ..)
    have hne : k ≠ key := fun e => by rw [e] at h0; omega
    show (if k = key then (key, v) :: (t ++ B) else if key.toNat < k.toNat then (key, v) :: (k, w) :: (t ++ B) else (k, w) :: putL key v (t ++ B)) = _
    rw [if_neg hne, if_neg (by omega), ih fun p hp => h p (List.mem_cons_of_mem _ hp)]; rfl
theorem putL_gt (key : Num) (v : Int) (X B : List KV) (h : ∀ p ∈ B, key.toNat < p.1.toNat) : putL key v (X ++ B) = putL key v X ++ B := by
  induction X with
  | nil =>
    cases B with
    | nil => rfl
    | cons p t =>
      obtain ⟨k, w⟩ := p
      have h0 : key.toNat < k.toNat := h (k, w) (List.mem_cons_self ..)
      have hne : k ≠ key := fun e => by rw [e] at h0; omega
      show (if k = key then (key, v) :: t else if key.toNat < k.toNat then (key, v) :: (k, w) :: t else (k, w) :: putL key v t) = _
      rw [if_neg hne, if_pos h0]; rfl
  | cons p t ih =>
    obtain ⟨k, w⟩ := p
    show (if k = key then (key, v) :: (t ++ B) else if key.toNat < k.toNat then (key, v) :: (k, w) :: (t ++ B) else (k, w) :: putL key v (t ++ B)) =
      (if k = key then (key, v) :: t else if key.toNat < k.toNat then (key, v) :: (k, w) :: t else (k, w) :: putL key v t) ++ B
    split
    · rfl
    · split
      · rfl
      · rw [ih]; rfl
theorem placeN_spec (key : Num) (ks : List Num) : (∀ i (h : i < ks.length), i < (placeN key ks).1 → ks[i].toNat < key.toNat) ∧
    (∀ h : (placeN key ks).1 < ks.length, key.toNat ≤ ks[(placeN key ks).1].toNat ∧ (placeN key ks).2 = decide (ks[(placeN key ks).1] = key)) ∧ ((placeN key ks).1 = ks.length → (placeN key ks).2 = false) := by
  induction ks with
  | nil => exact ⟨fun i h => by simp at h, fun h => by simp at h, fun _ => rfl⟩
  | cons k t ih =>
    simp only [placeN]
    by_cases h0 : key.toNat ≤ k.toNat
    · simp only [if_pos h0]
      exact ⟨fun i _ h => by omega, fun _ => ⟨h0, rfl⟩, fun h => by simp at h⟩
    · simp only [if_neg h0]
      refine ⟨fun i h hi => ?_, fun h => ?_, fun h => ih.2.2 (by simpa using h)⟩
      · cases i with
        | zero => simp only [List.getElem_cons_zero]; omega
        | succ i => simp only [List.getElem_cons_succ]; exact ih.1 i (by simpa using h) (by omega)
      · have := ih.2.1 (by simpa using h)
        simp only [List.getElem_cons_succ]; exact this
def wl : List Num → List Int → List (List KV) → List KV
  | k :: ks, v :: vs, x :: xs => x ++ (k, v) :: wl ks vs xs
  | _, _, _ => []
theorem wr_split : ∀ (ks : List Num) (vs : List Int) (xs : List (List KV)) (x : List KV), vs.length = ks.length → xs.length = ks.length → ∀ (j : Nat) (h : j < (x :: xs).length),
    x ++ wr ks vs xs = wl (ks.take j) (vs.take j) ((x :: xs).take j) ++ ((x :: xs)[j] ++ wr (ks.drop j) (vs.drop j) ((x :: xs).drop (j + 1))) := by
  intro ks
  induction ks with
  | nil =>
    intro vs xs x hv hx j h
    have : xs = [] := List.eq_nil_of_length_eq_zero hx
    subst this
    have : j = 0 := by simpa using h
    subst this
    simp [wl]
  | cons k ks ih =>
    intro vs xs x hv hx j h
    match vs, xs, hv, hx with
    | v :: vs, y :: ys, hv, hx =>
      cases j with
      | zero => simp [wl]
      | succ j =>
        have := ih vs ys y (by simpa using hv) (by simpa using hx) j (by simpa using h)
        simp only [wr, List.take_succ_cons, List.drop_succ_cons, List.getElem_cons_succ, wl]
        rw [this]; simp
theorem weave_split (ks : List Num) (vs : List Int) (X : List (List KV)) (hv : vs.length = ks.length) (hx : X.length = ks.length + 1) (j : Nat) (h : j < X.length) :
    weave ks vs X = wl (ks.take j) (vs.take j) (X.take j) ++ (X[j] ++ wr (ks.drop j) (vs.drop j) (X.drop (j + 1))) := by
  match X, hx with
  | x :: xs, hx => exact wr_split ks vs xs x hv (by simpa using hx) j h
theorem wl_le : ∀ (ks : List Num) (vs : List Int) (xs : List (List KV)) (Z : List KV), Srt (wl ks vs xs ++ Z) → ∀ p ∈ wl ks vs xs, ∃ k ∈ ks, p.1.toNat ≤ k.toNat := by
  intro ks
  induction ks with
  | nil => intro vs xs Z _ p hp; simp [wl] at hp
  | cons k ks ih =>
    intro vs xs Z hs p hp
    match vs, xs, hs, hp with
    | [], _, _, hp => simp [wl] at hp
    | v :: vs, [], _, hp => simp [wl] at hp
    | v :: vs, x :: xs, hs, hp =>
      simp only [wl, List.append_assoc, List.cons_append] at hs hp
      unfold Srt at hs
      rw [List.pairwise_append] at hs
      rcases List.mem_append.1 hp with h | h
      · exact ⟨k, List.mem_cons_self .., Nat.le_of_lt (hs.2.2 p h (k, v) (List.mem_cons_self ..))⟩
      · rcases List.mem_cons.1 h with rfl | h
        · exact ⟨k, List.mem_cons_self .., Nat.le_refl _⟩
        · obtain ⟨k', h1, h2⟩ := ih vs xs Z (List.pairwise_cons.1 hs.2.1).2 p h
          exact ⟨k', List.mem_cons_of_mem _ h1, h2⟩
theorem flatK_len : ∀ (ts : List Tree), (flatK ts).length = ts.length := by
  intro ts; induction ts with
  | nil => rfl
  | cons t ts ih => simp [flatK, ih]
theorem flatK_get : ∀ (ts : List Tree) (j : Nat) (h : j < ts.length), (flatK ts)[j]'(by rw [flatK_len]; exact h) = flatT ts[j] := by
  intro ts; induction ts with
  | nil => intro j h; simp at h
  | cons t ts ih =>
    intro j h
    cases j with
    | zero => simp [flatK]
    | succ j => simp only [flatK, List.getElem_cons_succ]; exact ih j (by simpa using h)
theorem flatK_take : ∀ (ts : List Tree) (j : Nat), flatK (ts.take j) = (flatK ts).take j := by
  intro ts; induction ts with
  | nil => intro j; simp [flatK]
  | cons t ts ih => intro j; cases j with
    | zero => simp [flatK]
    | succ j => simp [flatK, ih]
theorem flatK_drop : ∀ (ts : List Tree) (j : Nat), flatK (ts.drop j) = (flatK ts).drop j := by
  intro ts; induction ts with
  | nil => intro j; simp [flatK]
  | cons t ts ih => intro j; cases j with
    | zero => simp [flatK]
    | succ j => simp [flatK, ih]
theorem flatK_app : ∀ (a b : List Tree), flatK (a ++ b) = flatK a ++ flatK b := by
  intro a b; induction a with
  | nil => rfl
  | cons t a ih => simp [flatK, ih]
theorem flatK_set (ts : List Tree) (j : Nat) (t : Tree) : flatK (ts.set j t) = (flatK ts).set j (flatT t) := by
  induction ts generalizing j with
  | nil => rfl
  | cons x ts ih => cases j with
    | zero => rfl
    | succ j => simp [flatK, ih]
/-- A node with kids, at a kid. -/
theorem flat_at {ks : List Num} {vs : List Int} {ts : List Tree} (hv : vs.length = ks.length) (ht : ts.length = ks.length + 1) (j : Nat) (h : j < ts.length) :
    flatT (.node ks vs ts) = wl (ks.take j) (vs.take j) ((flatK ts).take j) ++ (flatT ts[j] ++ wr (ks.drop j) (vs.drop j) ((flatK ts).drop (j + 1))) := by
  simp only [flatT]
  rw [weave_split ks vs (flatK ts) hv (by rw [flatK_len, ht]) j (by rw [flatK_len]; exact h), flatK_get ts j h]
theorem flat_leaf {ks : List Num} {vs : List Int} : flatT (.node ks vs []) = ks.zip vs := rfl
end Go.Proofs.YtpcechnalfaajaaDoor

/- Trees of an index, in plain Lean: a node at a key's place; look-up, put and part by what the tree holds. -/
namespace Go.Proofs.YtpcechnalfaajaaDoor
open Go Go.Proofs

theorem mem_zip_fst {ks : List Num} {vs : List Int} {p : KV} (h : p ∈ ks.zip vs) : p.1 ∈ ks := (List.of_mem_zip (a := p.1) (b := p.2) h).1
theorem take_lt {key : Num} {ks : List Num} {k : Num} (h : k ∈ ks.take (placeN key ks).1) : k.toNat < key.toNat := by
  obtain ⟨i, hi, rfl⟩ := List.getElem_of_mem h
  rw [List.getElem_take]
  have : i < min (placeN key ks).1 ks.length := by simpa using hi
  exact (placeN_spec key ks).1 i (by omega) (by omega)
structure View (key : Num) (ks : List Num) (vs : List Int) (ts : List Tree) (A X B : List KV) : Prop where
  flat : flatT (.node ks vs ts) = A ++ (X ++ B)
  lt : ∀ p ∈ A, p.1.toNat < key.toNat
  leaf : ts = [] → X = []
  kid : ∀ h : (placeN key ks).1 < ts.length, X = flatT ts[(placeN key ks).1]
  hit : (placeN key ks).2 = true → ∃ B', B = (key, vs.getD (placeN key ks).1 0) :: B' ∧ (∀ p ∈ X, p.1.toNat < key.toNat) ∧ ∀ v, flatT (.node ks (vs.set (placeN key ks).1 v) ts) = A ++ (X ++ (key, v) :: B')
  miss : (placeN key ks).2 = false → ∀ p ∈ B, key.toNat < p.1.toNat
  ins : ts = [] → ∀ v, flatT (.node (insAt ks (placeN key ks).1 key) (insAt vs (placeN key ks).1 v) []) = A ++ (key, v) :: B
  set : ∀ (_ : (placeN key ks).1 < ts.length) t, flatT (.node ks vs (ts.set (placeN key ks).1 t)) = A ++ (flatT t ++ B)
theorem view (key : Num) {ks : List Num} {vs : List Int} {ts : List Tree} (hv : vs.length = ks.length) (ht : ts = [] ∨ ts.length = ks.length + 1) (hs : Srt (flatT (.node ks vs ts))) : ∃ A X B, View key ks vs ts A X B := by
  have hps := placeN_spec key ks
  have hple := placeN_le key ks
  generalize hj : (placeN key ks).1 = j at *
  have tlt : ∀ k ∈ ks.take j, k.toNat < key.toNat := fun k hk => take_lt (by rw [hj]; exact hk)
  rcases ht with rfl | ht
  · -- a leaf
    have hsp : ∀ (vs : List Int), vs.length = ks.length → ks.zip vs = (ks.take j).zip (vs.take j) ++ (ks.drop j).zip (vs.drop j) := by
      intro vs hv
      rw [← List.zip_append (by simp [hv]), List.take_append_drop, List.take_append_drop]
    have hs' : Srt (ks.zip vs) := hs
    rw [hsp vs hv] at hs'
    unfold Srt at hs'
    rw [List.pairwise_append] at hs'
    have hd : ∀ (vs : List Int), vs.length = ks.length → ∀ h : j < ks.length, (ks.drop j).zip (vs.drop j) = (ks[j], vs.getD j 0) :: (ks.drop (j + 1)).zip (vs.drop (j + 1)) := by
      intro vs hv h
      rw [List.drop_eq_getElem_cons h, List.drop_eq_getElem_cons (show j < vs.length by omega), List.zip_cons_cons]
      simp [List.getD, show j < vs.length by omega]
    refine ⟨(ks.take j).zip (vs.take j), [], (ks.drop j).zip (vs.drop j), ?_⟩
    constructor
    · exact hsp vs hv
    · intro p hp; exact tlt _ (mem_zip_fst hp)
    · intro _; rfl
    · intro h; simp at h
    · intro hf
      have hlt : j < ks.length := hple.2 hf
      have h1 := (hps.2.1 hlt).2
      rw [hf] at h1
      have hk : ks[j] = key := of_decide_eq_true h1.symm
      refine ⟨(ks.drop (j + 1)).zip (vs.drop (j + 1)), by rw [hj, hd vs hv hlt, hk], fun p hp => by simp at hp, fun v => ?_⟩
      rw [hj]
      show ks.zip (vs.set j v) = _
      rw [hsp _ (by simp [hv]), hd _ (by simp [hv]) hlt, hk]
      simp [List.getD, show j < vs.length by omega, List.take_set_of_le, List.drop_set_of_lt]
    · intro hf p hp
      rcases Nat.lt_or_ge j ks.length with hlt | hge
      · obtain ⟨h1, h2⟩ := hps.2.1 hlt
        rw [hf] at h2
        have hne : ks[j] ≠ key := of_decide_eq_false h2.symm
        have h3 : key.toNat < ks[j].toNat := by
          rcases Nat.lt_or_ge key.toNat ks[j].toNat with h | h
          · exact h
          · exact absurd (BitVec.eq_of_toNat_eq (by omega)) hne
        have hs2 := hs'.2.1
        rw [hd vs hv hlt] at hp hs2
        rcases List.mem_cons.1 hp with rfl | hp
        · exact h3
        · exact Nat.lt_trans h3 ((List.pairwise_cons.1 hs2).1 p hp)
      · rw [List.drop_of_length_le hge] at hp; simp at hp
    · intro _ v
      rw [hj]
      show (insAt ks j key).zip (insAt vs j v) = _
      unfold insAt
      rw [List.zip_append (by simp [hv]), List.zip_cons_cons]
    · intro h; simp at h
  · -- with kids
    have hjt : j < ts.length := by omega
    have hat : ∀ (vs : List Int) (ts : List Tree), vs.length = ks.length → ts.length = ks.length + 1 → ∀ h : j < ts.length, flatT (.node ks vs ts) = wl (ks.take j) (vs.take j) ((flatK ts).take j) ++ (flatT ts[j] ++ wr (ks.drop j) (vs.drop j) ((flatK ts).drop (j + 1))) := fun vs ts hv ht h => flat_at hv ht j h
    have hs' := hs
    rw [hat vs ts hv ht hjt] at hs'
    have hA := wl_le _ _ _ _ hs'
    unfold Srt at hs'
    rw [List.pairwise_append, List.pairwise_append] at hs'
    have hd : ∀ (vs : List Int), vs.length = ks.length → ∀ h : j < ks.length, ∃ Z, wr (ks.drop j) (vs.drop j) ((flatK ts).drop (j + 1)) = (ks[j], vs.getD j 0) :: Z ∧ ∀ v, wr (ks.drop j) ((vs.set j v).drop j) ((flatK ts).drop (j + 1)) = (ks[j], v) :: Z := by
      intro vs hv h
      have hx : j + 1 < (flatK ts).length := by rw [flatK_len]; omega
      have hl : j < vs.length := by omega
      refine ⟨(flatK ts)[j + 1] ++ wr (ks.drop (j + 1)) (vs.drop (j + 1)) ((flatK ts).drop (j + 1 + 1)), ?_, fun v => ?_⟩
      · rw [List.drop_eq_getElem_cons h, List.drop_eq_getElem_cons hl, List.drop_eq_getElem_cons hx]
        simp [wr, List.getD, hl]
      · rw [List.drop_eq_getElem_cons h, List.drop_eq_getElem_cons (show j < (vs.set j v).length by simpa using hl), List.drop_eq_getElem_cons hx]
        simp [wr, List.drop_set_of_lt]
    refine ⟨wl (ks.take j) (vs.take j) ((flatK ts).take j), flatT ts[j], wr (ks.drop j) (vs.drop j) ((flatK ts).drop (j + 1)), ?_⟩
    constructor
    · exact hat vs ts hv ht hjt
    · intro p hp
      obtain ⟨k, hk, hle⟩ := hA p hp
      exact Nat.lt_of_le_of_lt hle (tlt k hk)
    · intro h; rw [h] at ht; simp at ht
    · intro h; simp only [hj]
    · intro hf
      have hlt : j < ks.length := hple.2 hf
      have h1 := (hps.2.1 hlt).2
      rw [hf] at h1
      have hk : ks[j] = key := of_decide_eq_true h1.symm
      obtain ⟨Z, h2, h3⟩ := hd vs hv hlt
      refine ⟨Z, by rw [hj, h2, hk], fun p hp => ?_, fun v => ?_⟩
      · have := hs'.2.1.2.2 p hp _ (by rw [h2]; exact List.mem_cons_self ..)
        rw [hk] at this; exact this
      · rw [hj, hat (vs.set j v) ts (by simp [hv]) ht hjt, h3 v, hk, List.take_set_of_le (Nat.le_refl _)]
    · intro hf p hp
      rcases Nat.lt_or_ge j ks.length with hlt | hge
      · obtain ⟨h1, h2⟩ := hps.2.1 hlt
        rw [hf] at h2
        have hne : ks[j] ≠ key := of_decide_eq_false h2.symm
        have h3 : key.toNat < ks[j].toNat := by
          rcases Nat.lt_or_ge key.toNat ks[j].toNat with h | h
          · exact h
          · exact absurd (BitVec.eq_of_toNat_eq (by omega)) hne
        have hs2 := hs'.2.1.2.1
        obtain ⟨Z, h4, _⟩ := hd vs hv hlt
        rw [h4] at hp hs2
        rcases List.mem_cons.1 hp with rfl | hp
        · exact h3
        · exact Nat.lt_trans h3 ((List.pairwise_cons.1 hs2).1 p hp)
      · rw [List.drop_of_length_le hge] at hp; simp [wr] at hp
    · intro h; rw [h] at ht; simp at ht
    · intro h t
      rw [hj]
      have h' : j < (ts.set j t).length := by simpa using hjt
      rw [hat vs (ts.set j t) hv (by simp [ht]) h', flatK_set, List.take_set_of_le (Nat.le_refl _), List.drop_set_of_lt (by omega)]
      simp
theorem srt_parts {A X B : List KV} (h : Srt (A ++ (X ++ B))) : Srt X := by
  unfold Srt at h ⊢
  rw [List.pairwise_append, List.pairwise_append] at h
  exact h.2.1.1
theorem get_flat (key : Num) : ∀ (N : Nat) (t : Tree), sizeT t ≤ N → Ok t → Srt (flatT t) → getT key t = getL key (flatT t) := by
  intro N
  induction N with
  | zero => intro t hN hok; cases hok; simp only [sizeT] at hN; omega
  | succ N ih =>
    intro t hN hok hs
    cases hok with
    | mk hv ht hsub =>
    rename_i ks vs ts
    obtain ⟨A, X, B, V⟩ := view key hv ht hs
    have hne : ∀ {l : List KV}, (∀ p ∈ l, p.1.toNat < key.toNat) → ∀ p ∈ l, p.1 ≠ key := fun h p hp e => by have := h p hp; rw [e] at this; omega
    have hne2 : ∀ {l : List KV}, (∀ p ∈ l, key.toNat < p.1.toNat) → ∀ p ∈ l, p.1 ≠ key := fun h p hp e => by have := h p hp; rw [e] at this; omega
    rw [V.flat, getL_app key A _ (hne V.lt), getT]
    by_cases hf : (placeN key ks).2 = true
    · rw [if_pos hf]
      obtain ⟨B', h1, h2, _⟩ := V.hit hf
      rw [h1, getL_app key X _ (hne h2)]
      simp [getL]
    · rw [if_neg hf]
      rw [getL_app_r key X B (hne2 (V.miss (by simpa using hf)))]
      by_cases hts : ts = []
      · rw [V.leaf hts, hts]; rfl
      · have hlen : ts.length = ks.length + 1 := ht.resolve_left hts
        have hj : (placeN key ks).1 < ts.length := by have := (placeN_le key ks).1; omega
        have hX := V.kid hj
        rw [getK_at key ts _ hj, hX]
        have h0 := sizeK_at ts _ hj
        refine ih _ (by simp only [sizeT] at hN; omega) (hsub _ (List.getElem_mem hj)) ?_
        rw [V.flat, hX] at hs
        exact srt_parts hs
/-- A node that is parted holds what it held. -/
theorem part_flat {ks : List Num} {vs : List Int} {ts : List Tree} {j : Nat} (hv : vs.length = ks.length) (ht : ts.length = ks.length + 1) (hj : j < ts.length) {lk : List Num} {lv : List Int} {lt : List Tree} (hk : ts[j] = .node lk lv lt)
    (h1 : 0 < lk.length) (h2 : lv.length = lk.length) (h3 : lt = [] ∨ lt.length = lk.length + 1) : flatT (partT (.node ks vs ts) j) = flatT (.node ks vs ts) := by
  have hjk : j ≤ ks.length := by omega
  have h0 : ts[j]? = some (.node lk lv lt) := by rw [List.getElem?_eq_getElem hj, hk]
  rw [flat_at hv ht j hj, hk]
  simp only [partT, h0]
  generalize hm : lk.length / 2 = m
  have hml : m < lk.length := by omega
  generalize hL : Tree.node (lk.take m) (lv.take m) (lt.take (m + 1)) = L
  generalize hR : Tree.node (lk.drop (m + 1)) (lv.drop (m + 1)) (lt.drop (m + 1)) = R
  have key : flatT (.node lk lv lt) = flatT L ++ (lk.getD m 0, lv.getD m 0) :: flatT R := by
    have g1 : lk.getD m 0 = lk[m] := by simp [List.getD, hml]
    have g2 : lv.getD m 0 = lv[m]'(by omega) := by simp [List.getD, show m < lv.length by omega]
    rcases h3 with rfl | h3
    · rw [← hL, ← hR]
      simp only [List.take_nil, List.drop_nil, flat_leaf]
      rw [g1, g2, ← List.zip_cons_cons, ← List.drop_eq_getElem_cons hml, ← List.drop_eq_getElem_cons (show m < lv.length by omega), ← List.zip_append (by simp [h2]), List.take_append_drop, List.take_append_drop]
    · rw [flat_at h2 h3 m (by omega), ← hL, ← hR]
      have e1 : lt.take (m + 1) = lt.take m ++ [lt[m]'(by omega)] := List.take_succ_eq_append_getElem (by omega)
      rw [flat_at (ks := lk.take m) (vs := lv.take m) (ts := lt.take (m + 1)) (by simp [h2]) (by simp; omega) m (by simp; omega)]
      have e2 : (flatK (lt.take (m + 1))).drop (m + 1) = [] := List.drop_of_length_le (by rw [flatK_len]; simp; omega)
      have e3 : (flatK (lt.take (m + 1))).take m = (flatK lt).take m := by rw [flatK_take, List.take_take]; congr 1; omega
      rw [e2, e3]
      have e4 : (lk.take m).take m = lk.take m := by rw [List.take_take, Nat.min_self]
      have e5 : (lv.take m).take m = lv.take m := by rw [List.take_take, Nat.min_self]
      have e6 : wr ((lk.take m).drop m) ((lv.take m).drop m) [] = [] := by cases (lk.take m).drop m <;> cases (lv.take m).drop m <;> rfl
      rw [e4, e5, e6, List.append_nil, List.append_assoc]
      congr 1
      rw [List.getElem_take]
      congr 1
      have hx : m + 1 < lt.length := by omega
      rw [List.drop_eq_getElem_cons hml, List.drop_eq_getElem_cons (show m < lv.length by omega), List.drop_eq_getElem_cons (show m + 1 < (flatK lt).length by rw [flatK_len]; exact hx)]
      simp only [wr]
      rw [g1, g2]
      congr 1
      simp only [flatT]
      rw [flatK_drop, List.drop_eq_getElem_cons (show m + 1 < (flatK lt).length by rw [flatK_len]; exact hx)]
      rfl
  have hins : ∀ {α : Type} (l : List α) (x : α), j ≤ l.length → (insAt l j x).take j = l.take j ∧ (insAt l j x).drop j = x :: l.drop j := by
    intro α l x h
    unfold insAt
    constructor
    · rw [List.take_append_of_le_length (by simp; omega), List.take_take, Nat.min_self]
    · rw [List.drop_append_of_le_length (by simp; omega), List.drop_of_length_le (by rw [List.length_take]; omega), List.nil_append]
  have hlen : (ts.take j ++ L :: R :: ts.drop (j + 1)).length = ts.length + 1 := by simp; omega
  have hj' : j < (ts.take j ++ L :: R :: ts.drop (j + 1)).length := by omega
  rw [flat_at (by simp [insAt]; omega) (by rw [hlen]; simp [insAt]; omega) j hj', (hins ks _ hjk).1, (hins ks _ hjk).2, (hins vs _ (by omega)).1, (hins vs _ (by omega)).2]
  have f1 : (flatK (ts.take j ++ L :: R :: ts.drop (j + 1))).take j = (flatK ts).take j := by
    rw [← flatK_take, List.take_append_of_le_length (by simp; omega), List.take_take, Nat.min_self, flatK_take]
  have f2 : (flatK (ts.take j ++ L :: R :: ts.drop (j + 1))).drop (j + 1) = flatT R :: (flatK ts).drop (j + 1) := by
    rw [← flatK_drop, ← flatK_drop]
    have : (ts.take j ++ L :: R :: ts.drop (j + 1)).drop (j + 1) = R :: ts.drop (j + 1) := by
      rw [show ts.take j ++ L :: R :: ts.drop (j + 1) = (ts.take j ++ [L]) ++ R :: ts.drop (j + 1) by simp]
      rw [List.drop_append_of_le_length (by simp; omega), List.drop_of_length_le (by simp; omega), List.nil_append]
    rw [this]; rfl
  have f3 : (ts.take j ++ L :: R :: ts.drop (j + 1))[j]'hj' = L := by
    rw [List.getElem_append_right (by simp; omega)]; simp [show min j ts.length = j by omega]
  rw [f1, f2, f3, key]
  simp [wr]
theorem cntK_app : ∀ (a b : List Tree), cntK (a ++ b) = cntK a + cntK b := by
  intro a b; induction a with
  | nil => simp [cntK]
  | cons t a ih => simp only [List.cons_append, cntK, ih]; omega
theorem cntK_set (ts : List Tree) (j : Nat) (h : j < ts.length) (t : Tree) : cntK (ts.set j t) + cntT ts[j] = cntK ts + cntT t := by
  induction ts generalizing j with
  | nil => simp at h
  | cons x ts ih => cases j with
    | zero => simp only [List.set_cons_zero, cntK, List.getElem_cons_zero]; omega
    | succ j => have := ih j (by simpa using h); simp only [List.set_cons_succ, cntK, List.getElem_cons_succ]; omega
theorem part_ok {ks : List Num} {vs : List Int} {ts : List Tree} {j : Nat} (hv : vs.length = ks.length) (ht : ts.length = ks.length + 1) (hj : j < ts.length) (hall : ∀ t ∈ ts, Ok t) {lk : List Num} {lv : List Int} {lt : List Tree} (hk : ts[j] = .node lk lv lt)
    (h1 : 0 < lk.length) : Ok (partT (.node ks vs ts) j) ∧ cntT (partT (.node ks vs ts) j) = cntT (.node ks vs ts) := by
  have h0 : ts[j]? = some (.node lk lv lt) := by rw [List.getElem?_eq_getElem hj, hk]
  have hokj := hall _ (List.getElem_mem hj)
  rw [hk] at hokj
  cases hokj with
  | mk h2 h3 h4 =>
  simp only [partT, h0]
  generalize hm : lk.length / 2 = m
  have hml : m < lk.length := by omega
  have okL : Ok (.node (lk.take m) (lv.take m) (lt.take (m + 1))) := by
    refine .mk (by simp [h2]) ?_ fun t ht => h4 t (List.mem_of_mem_take ht)
    rcases h3 with rfl | h3
    · left; simp
    · right; simp; omega
  have okR : Ok (.node (lk.drop (m + 1)) (lv.drop (m + 1)) (lt.drop (m + 1))) := by
    refine .mk (by simp [h2]) ?_ fun t ht => h4 t (List.mem_of_mem_drop ht)
    rcases h3 with rfl | h3
    · left; simp
    · right; simp; omega
  refine ⟨.mk (by simp [insAt]; omega) (.inr (by simp [insAt]; omega)) fun t ht => ?_, ?_⟩
  · rcases List.mem_append.1 ht with h | h
    · exact hall t (List.mem_of_mem_take h)
    · rcases List.mem_cons.1 h with rfl | h
      · exact okL
      · rcases List.mem_cons.1 h with rfl | h
        · exact okR
        · exact hall t (List.mem_of_mem_drop h)
  · simp only [cntT, cntK_app, cntK]
    have e1 : cntK ts = cntK (ts.take j) + (cntT (.node lk lv lt) + cntK (ts.drop (j + 1))) := by
      have : ts = ts.take j ++ ts[j] :: ts.drop (j + 1) := by rw [← List.drop_eq_getElem_cons hj, List.take_append_drop]
      conv => lhs; rw [this, hk]
      simp only [cntK_app, cntK]
    have e2 : cntK lt = cntK (lt.take (m + 1)) + cntK (lt.drop (m + 1)) := by rw [← cntK_app, List.take_append_drop]
    rw [e1]
    simp only [cntT]
    have e3 : (insAt ks j (lk.getD m 0)).length = ks.length + 1 := by simp [insAt]; omega
    rw [e3, e2]
    simp only [List.length_take, List.length_drop]
    omega
/-- Put keeps a tree's shape, and tells how many keys there are. -/
theorem put_ok (key : Num) (v : Int) : ∀ (N : Nat) (t : Tree), sizeT t ≤ N → Ok t → Ok (putT key v t).1 ∧ cntT (putT key v t).1 = cntT t + (if (putT key v t).2 then 1 else 0) := by
  intro N
  induction N with
  | zero => intro t hN hok; cases hok; simp only [sizeT] at hN; omega
  | succ N ih =>
    intro t hN hok
    cases hok with
    | mk hv ht hsub =>
    rename_i ks vs ts
    by_cases hf : (placeN key ks).2 = true
    · rw [putT_hit hf]
      exact ⟨.mk (by simp [hv]) ht hsub, by simp [cntT]⟩
    · have hf : (placeN key ks).2 = false := by simpa using hf
      have hple := (placeN_le key ks).1
      by_cases hts : ts = []
      · subst hts
        rw [putT_leaf hf]
        exact ⟨.mk (by simp [insAt]; omega) (.inl rfl) hsub, by simp [cntT, insAt]; omega⟩
      · have hlen : ts.length = ks.length + 1 := ht.resolve_left hts
        have hj : (placeN key ks).1 < ts.length := by omega
        have h0 := sizeK_at ts _ hj
        obtain ⟨h1, h2⟩ := ih _ (by simp only [sizeT] at hN; omega) (hsub _ (List.getElem_mem hj))
        rw [putT_kid hf hj]
        generalize (placeN key ks).1 = j at *
        generalize hr : putT key v ts[j] = r at *
        have hall : ∀ t ∈ ts.set j r.1, Ok t := fun t ht => by
          rcases List.mem_or_eq_of_mem_set ht with h | rfl
          · exact hsub t h
          · exact h1
        have hc := cntK_set ts j hj r.1
        have hok2 : Ok (.node ks vs (ts.set j r.1)) := .mk hv (.inr (by simp [hlen])) hall
        have hcnt : cntT (.node ks vs (ts.set j r.1)) = cntT (.node ks vs ts) + (if r.2 then 1 else 0) := by
          simp only [cntT]; omega
        show Ok (fixT j _ r.1) ∧ cntT (fixT j _ r.1) = _
        unfold fixT
        split
        · rename_i h5
          obtain ⟨t1, b⟩ := r
          obtain ⟨lk, lv, lt⟩ := t1
          have := part_ok (vs := vs) (ts := ts.set j (.node lk lv lt)) (j := j) (lk := lk) (lv := lv) (lt := lt) hv (by simp [hlen]) (by simpa using hj) hall (by simp) (by simp only [keysT] at h5; omega)
          exact ⟨this.1, by rw [this.2]; exact hcnt⟩
        · exact ⟨hok2, hcnt⟩
theorem put_flat (key : Num) (v : Int) : ∀ (N : Nat) (t : Tree), sizeT t ≤ N → Ok t → Srt (flatT t) →
    flatT (putT key v t).1 = putL key v (flatT t) ∧ (putT key v t).2 = (getL key (flatT t)).isNone := by
  intro N
  induction N with
  | zero => intro t hN hok; cases hok; simp only [sizeT] at hN; omega
  | succ N ih =>
    intro t hN hok hs
    cases hok with
    | mk hv ht hsub =>
    rename_i ks vs ts
    obtain ⟨A, X, B, V⟩ := view key hv ht hs
    have hne : ∀ {l : List KV}, (∀ p ∈ l, p.1.toNat < key.toNat) → ∀ p ∈ l, p.1 ≠ key := fun h p hp e => by have := h p hp; rw [e] at this; omega
    have hne2 : ∀ {l : List KV}, (∀ p ∈ l, key.toNat < p.1.toNat) → ∀ p ∈ l, p.1 ≠ key := fun h p hp e => by have := h p hp; rw [e] at this; omega
    rw [V.flat, getL_app key A _ (hne V.lt), putL_lt key v A _ V.lt]
    by_cases hf : (placeN key ks).2 = true
    · rw [putT_hit hf]
      obtain ⟨B', h1, h2, h3⟩ := V.hit hf
      refine ⟨?_, ?_⟩
      · show flatT (.node ks (vs.set _ v) ts) = _
        rw [h3 v, h1, putL_lt key v X _ h2]
        simp [putL]
      · rw [h1, getL_app key X _ (hne h2)]
        simp [getL]
    · have hf : (placeN key ks).2 = false := by simpa using hf
      rw [putL_gt key v X B (V.miss hf), getL_app_r key X B (hne2 (V.miss hf))]
      by_cases hts : ts = []
      · subst hts
        rw [putT_leaf hf, V.leaf rfl]
        exact ⟨V.ins rfl v, rfl⟩
      · have hlen : ts.length = ks.length + 1 := ht.resolve_left hts
        have hj : (placeN key ks).1 < ts.length := by have := (placeN_le key ks).1; omega
        have hX := V.kid hj
        have h0 := sizeK_at ts _ hj
        have hih := ih _ (by simp only [sizeT] at hN; omega) (hsub _ (List.getElem_mem hj)) (by rw [V.flat, hX] at hs; exact srt_parts hs)
        rw [putT_kid hf hj, hX]
        refine ⟨?_, hih.2⟩
        rw [← hih.1, ← V.set hj]
        obtain ⟨h1, _⟩ := put_ok key v _ _ (Nat.le_refl _) (hsub _ (List.getElem_mem hj))
        generalize (placeN key ks).1 = j at *
        generalize hr : putT key v ts[j] = r at *
        show flatT (fixT j _ r.1) = _
        unfold fixT
        split
        · rename_i h5
          obtain ⟨t1, b⟩ := r
          obtain ⟨lk, lv, lt⟩ := t1
          cases h1 with
          | mk h1 h2 h3 =>
          exact part_flat (vs := vs) (ts := ts.set j (.node lk lv lt)) (j := j) (lk := lk) (lv := lv) (lt := lt) hv (by simp [hlen]) (by simpa using hj) (by simp) (by simp only [keysT] at h5; omega) h1 h2
        · rfl
theorem putT_flat (key : Num) (v : Int) (t : Tree) (hok : Ok t) (hs : Srt (flatT t)) : flatT (putT key v t).1 = putL key v (flatT t) ∧ (putT key v t).2 = (getL key (flatT t)).isNone := put_flat key v _ t (Nat.le_refl _) hok hs
theorem putT_ok (key : Num) (v : Int) (t : Tree) (hok : Ok t) : Ok (putT key v t).1 ∧ cntT (putT key v t).1 = cntT t + (if (putT key v t).2 then 1 else 0) := put_ok key v _ t (Nat.le_refl _) hok
theorem getT_flat (key : Num) (t : Tree) (hok : Ok t) (hs : Srt (flatT t)) : getT key t = getL key (flatT t) := get_flat key _ t (Nat.le_refl _) hok hs
theorem mem_putL {key : Num} {v : Int} {l : List KV} {p : KV} (h : p ∈ putL key v l) : p = (key, v) ∨ p ∈ l := by
  induction l with
  | nil => simp [putL] at h; exact .inl h
  | cons x t ih =>
    obtain ⟨k, w⟩ := x
    simp only [putL] at h
    split at h
    · rcases List.mem_cons.1 h with h | h
      · exact .inl h
      · exact .inr (List.mem_cons_of_mem _ h)
    · split at h
      · rcases List.mem_cons.1 h with h | h
        · exact .inl h
        · exact .inr h
      · rcases List.mem_cons.1 h with h | h
        · exact .inr (by rw [h]; exact List.mem_cons_self ..)
        · exact (ih h).imp id fun h => List.mem_cons_of_mem _ h
theorem putL_srt {key : Num} {v : Int} {l : List KV} (h : Srt l) : Srt (putL key v l) := by
  induction l with
  | nil => simp [putL, Srt]
  | cons x t ih =>
    obtain ⟨k, w⟩ := x
    unfold Srt at h
    obtain ⟨h1, h2⟩ := List.pairwise_cons.1 h
    simp only [putL]
    split
    · rename_i e; subst e; exact List.pairwise_cons.2 ⟨h1, h2⟩
    · rename_i hne
      split
      · rename_i hlt
        exact List.pairwise_cons.2 ⟨fun p hp => by
          rcases List.mem_cons.1 hp with rfl | hp
          · exact hlt
          · exact Nat.lt_trans hlt (h1 p hp), h⟩
      · rename_i hge
        refine List.pairwise_cons.2 ⟨fun p hp => ?_, ih h2⟩
        rcases mem_putL hp with rfl | hp
        · show k.toNat < key.toNat
          rcases Nat.lt_or_ge k.toNat key.toNat with h | h
          · exact h
          · exact absurd (BitVec.eq_of_toNat_eq (by omega)) hne
        · exact h1 p hp
theorem zip_len {ks : List Num} {vs : List Int} (h : vs.length = ks.length) : (ks.zip vs).length = ks.length := by simp [h]
/-- A node with another kid in a place. -/
theorem set_in {κ : Kap} {ks : List Num} {vs : List Int} {ts : List Tree} {b : Nat} {cs : List HProp} {g : Hp} {j : Nat} {t : Tree} {i : NodeI} (hj : j < ts.length) (hb : i.bs.length = ts.length)
    (h : sepL κ (tn t (i.bs[j]'(by omega)) :: hdr b ks vs i (kidsP (ts.take j) (i.bs.take j) ++ (kidsP (ts.drop (j + 1)) (i.bs.drop (j + 1)) ++ cs))) g) : sepL κ (tn (.node ks vs (ts.set j t)) b :: cs) g := by
  refine node_in i ⟨by simp [hb], fun h => ?_⟩ ?_
  · have := congrArg List.length h; simp at this; rw [this] at hj; simp at hj
  · rw [kids_split (ts.set j t) i.bs j (by simpa using hj) (by omega), List.append_assoc, List.cons_append, List.take_set_of_le (Nat.le_refl _), List.drop_set_of_lt (by omega), List.getElem_set_self]
    exact hdr_in h
end Go.Proofs.YtpcechnalfaajaaDoor

/- index: put. -/
namespace Go.Proofs.YtpcechnalfaajaaDoor
open Go Go.Proofs

theorem put_tr : ∀ (N : Nat) (t : Tree), sizeT t ≤ N → Ok t → cntT t < 800 → ∀ (b : Nat) (key : Num) (v : Int) (κ : Kap) (cs : List HProp),
    Tr Tryd.prog 71 [.pointer (some ⟨b, 0, none⟩), .agg (nm key).toArray, .int .i64 v] κ (tn t b :: cs) (.bool (putT key v t).2) (tn (putT key v t).1 b :: cs) := by
  intro N
  induction N with
  | zero =>
    intro t hN hok hcnt b key v κ cs
    cases hok; simp only [sizeT] at hN; omega
  | succ N ih =>
    intro t hN hok hcnt b key v κ cs
    cases hok with
    | mk hv ht hsub =>
    rename_i ks vs ts
    have hcnt : ks.length + cntK ts < 800 := by simpa only [cntT] using hcnt
    have hple := placeN_le key ks
    refine .enter Tryd.func71 rfl rfl ?_
    refine .satx (ι := NodeI) (cs' := fun i => hdr b ks vs i (kidsP ts i.bs ++ cs)) (p := fun i => i.bs.length = ts.length ∧ (ts = [] → i.tp = none)) (fun w hs => by
      obtain ⟨g, sg, dg, hr⟩ := hs.ex
      obtain ⟨i, hi, hh⟩ := node_out hr
      exact ⟨i, hi, hs.os, hs.tape, hs.out, hs.ro, g, sg, dg, hh⟩) fun i hi => ?_
    refine .seq ?_
    refine .reg ?_
    refine .bx fun b4 => ?_
    refine .as ?_
    refine .go ?_
    rw [vc_agg]
    refine .rds i.kp ks.length i.kc 2 (hrd := by intro b hb; unfold hdr; rw [hb]; infer_instance) fun hrd hkc => ?_
    refine .seq ?_
    refine .reg ?_
    refine .mv ?_
    refine .ldw ?_
    refine .cl (place_tr b ks (by omega) key i.kp i.kc _ _ κ _ hrd) ?_
    refine .mv ?_
    refine .ex ?_
    refine .ex ?_
    refine .as ?_
    refine .as ?_
    refine .go ?_
    refine .seq ?_
    refine .seq ?_
    refine .reg ?_
    refine .mv ?_
    refine .go ?_
    refine .cond rfl (fun hc => ?_) (fun hc => ?_)   -- t16
    · have hlt := hple.2 hc
      refine .slp (p := i.vp) (cap := i.vcap) (sz := 1) (n0 := vs.length) (by omega) (fun bb hbb _ => ?_)
      refine .seq ?_
      refine .reg ?_
      refine .mv ?_
      refine .nc ?_
      refine .fa ?_
      refine .ld ?_
      refine .mv ?_
      refine .mv ?_
      unfold hdr
      rw [hbb]
      refine .ix ?_
      refine .sx (r' := cells .i64 (vs.set (placeN key ks).1 v)) ?_ ?_
      · show putN _ (0 + (placeN key ks).1 * 1) _ = _
        rw [Nat.zero_add, Nat.mul_one, cells_put _ _ _ _ (by omega)]
      rw [← hbb]
      refine .go ?_
      refine .seq ?_
      refine .reg ?_
      refine .as ?_
      refine .go ?_
      refine .r1 fun w hs => ?_
      have e : putT key v (.node ks vs ts) = (.node ks (vs.set (placeN key ks).1 v) ts, false) := putT_hit hc
      rw [e]
      refine ⟨rfl, hs.rows.imp fun g hg => node_in i hi ?_⟩
      show sepL κ (hdr b ks (vs.set (placeN key ks).1 v) i _) g
      unfold hdr
      rw [List.length_set]
      exact hg
    · refine .go ?_
      refine .seq ?_
      refine .seq ?_
      refine .reg ?_
      refine .mv ?_
      refine .nc ?_
      refine .fa ?_
      refine .ld ?_
      refine .nl ?_
      refine .go ?_
      generalize hJ : (placeN key ks).1 = j at *
      have hjle := hple.1
      refine .cond rfl (fun hn => ?_) (fun hn => ?_)   -- t28
      · by_cases hts : ts = []
        case neg =>
          have hpos : 0 < i.bs.length := by rw [hi.1]; exact List.length_pos_iff.2 hts
          exact .slp (p := i.tp) (cap := i.tc) (sz := 1) (n0 := i.bs.length) hpos (fun bb hbb _ => by rw [hbb] at hn; cases hn)
        subst hts
        refine .slh i.kp ks.length i.kc 2 fun hkp => ?_
        refine .slh i.vp vs.length i.vcap 1 fun hvp => ?_
        refine .seq ?_
        refine .regD [(b, 0, [.slice i.kp ks.length i.kc, .slice i.vp vs.length i.vcap, .slice i.tp i.bs.length i.tc]), (b4, 0, nm key)] [19] ?_
        refine .mv 0 ?_
        refine .mv 1 ?_
        refine .nc 2 ?_
        refine .fa 3 ?_
        refine .ld 4 ?_
        refine .mv 5 ?_
        refine .slc 0 j 6 ?_
        rw [cut0 hkp, Nat.sub_zero, Nat.sub_zero]
        refine .ldw 7 ?_
        refine .mv 9 ?_
        refine .nc 10 ?_
        refine .fa 11 ?_
        refine .ld 12 ?_
        refine .mv 13 ?_
        refine .slc j ks.length 14 ?_
        refine .bs1 (v := .agg (nm key).toArray) (m := 2) 8 (fun b37 => ?_) rfl
        rw [vc_agg]
        have hsuf := (hrd.suf (m := 2) (j := j) (by rw [flat_len nm 2 nm_len]) hkc hjle)
        rw [← flat_drop nm 2 nm_len] at hsuf
        refine .own b37 1 2 rfl ?_
        refine .ap 15 hsuf.tail (fun p44 c44 => ?_) (show ((ks.drop j).flatMap nm).length = (ks.length - j) * 2 by rw [flat_len nm 2 nm_len, List.length_drop]) (one_flat nm nm_one _)
        refine .cut i.kp ks.length i.kc 2 j i.kc hjle ⟨by omega, Nat.le_refl _⟩ ?_
        rw [← flat_take nm 2 nm_len]
        refine .rds p44 (1 + (ks.length - j)) c44 2 fun h44 _ => ?_
        refine .ap 16 h44 (fun p45 c45 => ?_) (show (nm key ++ (ks.drop j).flatMap nm).length = (1 + (ks.length - j)) * 2 by rw [List.length_append, flat_len nm 2 nm_len, List.length_drop, nm_len]; omega) (one_flat nm nm_one (key :: ks.drop j))
        refine .nc 17 ?_
        refine .fa 18 ?_
        refine .st 19 ?_
        refine .go ?_
        refine .seq ?_
        have hjv : j ≤ vs.length := by omega
        refine .regD [(b, 0, [.slice p45 (j + (1 + (ks.length - j))) c45, .slice i.vp vs.length i.vcap, .slice i.tp i.bs.length i.tc])] [19] ?_
        refine .rds i.vp vs.length i.vcap 1 (hrd := by intro b hb; rw [hb]; infer_instance) fun hrv hvc => ?_
        refine .mv 0 ?_
        refine .mv 1 ?_
        refine .nc 2 ?_
        refine .fa 3 ?_
        refine .ld 4 ?_
        refine .mv 5 ?_
        refine .slc 0 j 6 ?_
        rw [cut0 hvp, Nat.sub_zero, Nat.sub_zero]
        refine .mv 7 ?_
        refine .mv 9 ?_
        refine .nc 10 ?_
        refine .fa 11 ?_
        refine .ld 12 ?_
        refine .mv 13 ?_
        refine .slc j vs.length 14 ?_
        refine .bs1 (v := .int .i64 v) (m := 1) 8 (fun b56 => ?_) rfl
        have hsv := (hrv.suf (m := 1) (j := j) (by rw [cells_len, Nat.mul_one]) hvc hjv)
        refine .own b56 1 1 rfl ?_
        have ed : (cells .i64 vs).drop j = cells .i64 (vs.drop j) := by simp [cells, List.map_drop]
        have et : (cells .i64 vs).take j = cells .i64 (vs.take j) := by simp [cells, List.map_take]
        rw [show (cells .i64 vs).drop (j * 1) = cells .i64 (vs.drop j) by rw [Nat.mul_one, ed]] at hsv
        refine .ap 15 hsv.tail (fun p63 c63 => ?_) (show (cells .i64 (vs.drop j)).length = (vs.length - j) * 1 by simp) (cells_one _ _)
        refine .cut i.vp vs.length i.vcap 1 j i.vcap hjv ⟨by omega, Nat.le_refl _⟩ ?_
        rw [show (cells .i64 vs).take (j * 1) = cells .i64 (vs.take j) by rw [Nat.mul_one, et]]
        refine .rds p63 (1 + (vs.length - j)) c63 1 fun h63 _ => ?_
        refine .ap 16 h63 (fun p64 c64 => ?_) (show (vc (.int .i64 v) ++ cells .i64 (vs.drop j)).length = (1 + (vs.length - j)) * 1 by simp [vc]; omega) (cells_one .i64 (v :: vs.drop j))
        refine .nc 17 ?_
        refine .fa 18 ?_
        refine .st 19 ?_
        refine .go ?_
        refine .seq ?_
        refine .reg ?_
        refine .as ?_
        refine .go ?_
        refine .r1 fun w hs => ?_
        rw [putT_leaf hc, hJ]
        have hs := hs.rows.rows.rows
        refine ⟨rfl, hs.imp fun g hg => node_in ⟨p45, c45, p64, c64, i.tp, i.tc, i.bs⟩ ⟨hi.1, fun _ => hi.2 rfl⟩ ?_⟩
        have l1 : (insAt ks j key).length = j + (1 + (ks.length - j)) := by simp [insAt]; omega
        have l2 : (insAt vs j v).length = j + (1 + (vs.length - j)) := by simp [insAt]; omega
        have e1 : (insAt ks j key).flatMap nm = (ks.take j).flatMap nm ++ (nm key ++ (ks.drop j).flatMap nm) := by simp [insAt]
        have e2 : cells .i64 (insAt vs j v) = cells .i64 (vs.take j) ++ (vc (.int .i64 v) ++ cells .i64 (vs.drop j)) := by simp [insAt, cells, vc]
        unfold hdr
        rw [l1, l2, e1, e2]
        exact hg
      · refine .go ?_
        have htl : ts.length = ks.length + 1 := by
          rcases ht with h | h
          · have := hi.2 h; rw [this] at hn; cases hn
          · exact h
        have hj : j < ts.length := by omega
        have hjb : j < i.bs.length := by omega
        have hokj : Ok ts[j] := hsub _ (List.getElem_mem hj)
        have hsz := sizeK_at ts j hj
        have hcj := cntK_at ts j hj
        obtain ⟨hok', hcnt'⟩ := putT_ok key v ts[j] hokj
        have hgv : ∀ bs : List Nat, bs.length = i.bs.length → bs[j]? = i.bs[j]? → getV false (bs.map ptrV) (((j : Nat) : Int).toNat * 1) 1 = some (ptrV i.bs[j]) := by
          intro bs h1 h2
          rw [Nat.mul_one]; simp [getV, get1_eq, h2, hjb]
        have hsplit := kids_split ts i.bs j hj hjb
        have hlist : kidsP ts i.bs ++ cs = kidsP (ts.take j) (i.bs.take j) ++ tn ts[j] i.bs[j] :: (kidsP (ts.drop (j + 1)) (i.bs.drop (j + 1)) ++ cs) := by rw [hsplit]; simp
        rw [hlist]
        refine .sat (cs' := tn ts[j] i.bs[j] :: pts b4 (24, nm key) :: hdr b ks vs i (kidsP (ts.take j) (i.bs.take j) ++ (kidsP (ts.drop (j + 1)) (i.bs.drop (j + 1)) ++ cs))) (fun w hs => hs.imp fun g hg => sepL_swap (sepL_tail (fun g hg => hdr_out hg) hg)) ?_
        refine .slp (p := i.tp) (cap := i.tc) (sz := 1) (n0 := i.bs.length) (by omega) (fun bt hbt _ => ?_)
        refine .seq ?_
        refine .regD [(b, 0, [.slice i.kp ks.length i.kc, .slice i.vp vs.length i.vcap, .slice (some ⟨bt, 0, none⟩) i.bs.length i.tc]), (b4, 0, nm key), (bt, 0, i.bs.map ptrV)] [] ?_
        unfold hdr
        rw [hbt]
        refine .mv 0 ?_
        refine .nc 1 ?_
        refine .fa 2 ?_
        refine .ld 3 ?_
        refine .mv 4 ?_
        refine .ix 5 ?_
        refine .lx 6 (hgv i.bs rfl rfl) ?_
        refine .ldw 7 ?_
        refine .mv 8 ?_
        refine .cl 9 (ih ts[j] (by simp only [sizeT] at hN; omega) hokj (by omega) i.bs[j] key v κ _) ?_
        refine .as 10 ?_
        refine .go ?_
        have hres : putT key v (.node ks vs ts) = (fixT j (.node ks vs (ts.set j (putT key v ts[j]).1)) (putT key v ts[j]).1, (putT key v ts[j]).2) := by
          have := putT_kid (key := key) (v := v) (ks := ks) (vs := vs) (ts := ts) hc (by rw [hJ]; exact hj)
          simpa only [hJ] using this
        rw [hres]
        generalize putT key v ts[j] = r at *
        obtain ⟨⟨lk, lv, lt⟩, fresh⟩ := r
        cases hok' with
        | mk h1 h2 h3 =>
        simp only at *
        have hcl : lk.length + cntK lt < 900 := by simp only [cntT] at hcnt'; split at hcnt' <;> omega
        have mv : ∀ (X : List HProp) {T : List HProp} {bj : Nat} {il : NodeI} {κ : Kap} {g : Hp}, sepL κ (hdr bj lk lv il (X ++ (pts b4 (24, nm key) :: hdr b ks vs i T))) g ↔ sepL κ (hdr bj lk lv il (pts b4 (24, nm key) :: hdr b ks vs i (X ++ T))) g := by
          intro X T bj il κ g
          constructor
          · exact fun h => sepL_tails (F := [_, _, _, _]) (fun g h => sepL_swapl X [_, _, _, _, _] h) h
          · exact fun h => sepL_tails (F := [_, _, _, _]) (fun g h => sepL_swapl [_, _, _, _, _] X h) h
        refine .jn (ι := Unit) (fun _ => [(9, .bool fresh)]) (fun _ => tn (fixT j (.node ks vs (ts.set j (.node lk lv lt))) (.node lk lv lt)) b :: pts b4 (24, nm key) :: cs) (fun _ => True) ?_ fun _ _ => ?_
        · refine .satx (ι := NodeI) (cs' := fun il => hdr i.bs[j] lk lv il (pts b4 (24, nm key) :: hdr b ks vs i (kidsP lt il.bs ++ (kidsP (ts.take j) (i.bs.take j) ++ (kidsP (ts.drop (j + 1)) (i.bs.drop (j + 1)) ++ cs))))) (p := fun il => il.bs.length = lt.length ∧ (lt = [] → il.tp = none)) (fun w hs => by
            rw [← hbt] at hs
            obtain ⟨g, sg, dg, hr⟩ := hs.ex
            obtain ⟨il, hil, hh⟩ := node_out hr
            exact ⟨il, hil, hs.os, hs.tape, hs.out, hs.ro, g, sg, dg, (mv _).1 hh⟩) fun il hil => ?_
          have fold : ∀ κ g, sepL κ (hdr i.bs[j] lk lv il (pts b4 (24, nm key) :: hdr b ks vs i (kidsP lt il.bs ++ (kidsP (ts.take j) (i.bs.take j) ++ (kidsP (ts.drop (j + 1)) (i.bs.drop (j + 1)) ++ cs))))) g → sepL κ (tn (.node ks vs (ts.set j (.node lk lv lt))) b :: pts b4 (24, nm key) :: cs) g := by
            intro κ g h
            exact sepL_swap (sepL_tail (fun g h => set_in hj hi.1 h) (sepL_swap (node_in il hil ((mv _).2 h))))
          unfold hdr
          rw [hbt]
          refine .seq ?_
          refine .reg ?_
          refine .mv ?_
          refine .nc ?_
          refine .fa ?_
          refine .ld ?_
          refine .mv ?_
          refine .ix ?_
          refine .lx (hgv i.bs rfl rfl) ?_
          refine .nc ?_
          refine .fa ?_
          refine .ld ?_
          refine .ln ?_
          refine .gt ?_
          refine .go ?_
          refine .cond rfl (fun h5 => ?_) (fun h5 => ?_)   -- t88
          · have h5 : 5 < lk.length := by have := of_decide_eq_true h5; omega
            refine .reg ?_
            refine .mv ?_
            refine .mv ?_
            refine .sat (cs' := tn (.node ks vs (ts.set j (.node lk lv lt))) b :: pts b4 (24, nm key) :: cs) (fun w hs => by rw [← hbt] at hs; exact hs.imp fun g hg => fold κ g hg) ?_
            refine .cl (part_tr ks vs (ts.set j (.node lk lv lt)) j (by simpa using hj) lk lv lt (by simp) ⟨by omega, by omega⟩ h1 h2 ⟨hv, by simp [htl]⟩ (by omega) b κ _) ?_
            refine .nil fun aa w hf hs => ⟨(), trivial, hf.to (by repeat (first | exact trivial | refine ⟨rfl, ?_⟩)), ?_⟩
            have e : fixT j (.node ks vs (ts.set j (.node lk lv lt))) (.node lk lv lt) = partT (.node ks vs (ts.set j (.node lk lv lt))) j := if_pos (by simpa only [keysT] using h5)
            rw [e]; exact hs
          · have h5 : ¬ 5 < lk.length := by have := of_decide_eq_false h5; omega
            refine .skip fun aa w hf hs => ⟨(), trivial, hf.to (by repeat (first | exact trivial | refine ⟨rfl, ?_⟩)), ?_⟩
            have e : fixT j (.node ks vs (ts.set j (.node lk lv lt))) (.node lk lv lt) = .node ks vs (ts.set j (.node lk lv lt)) := if_neg (by simpa only [keysT] using h5)
            rw [e]
            rw [← hbt] at hs
            exact hs.imp fun g hg => fold κ g hg
        · refine .seq ?_
          refine .reg ?_
          refine .mv ?_
          refine .as ?_
          refine .go ?_
          refine .r1 fun w hs => ?_
          exact ⟨rfl, hs.pm 2 [0]⟩
end Go.Proofs.YtpcechnalfaajaaDoor

/- Ranges over functions; deferred calls; any object in memory. -/
namespace Go.Proofs.YtpcechnalfaajaaDoor
open Go Go.Proofs

/-- An object that is owned. -/
def pob (b : Nat) (o : Obj) : HProp := fun _ h => h = fun b' => if b' = b then some o else none
theorem Sat.pob_heap {κ : Kap} {w : World} {b : Nat} {o : Obj} {Fr : List HProp} (h : Sat κ w (pob b o :: Fr)) : w.heap[b]? = some o := by
  obtain ⟨g, s, _, h1, h2, s1, _, _, hc, _⟩ := h.ex
  have e : h1 b = some o := by rw [hc]; simp
  exact s b _ (s1 b _ e)
theorem Sat.pob_put {κ : Kap} {w : World} {b : Nat} {o o' : Obj} {Fr : List HProp} (h : Sat κ w (pob b o :: Fr)) : Sat κ (w.putObj b o') (pob b o' :: Fr) := by
  have hb := h.pob_heap
  have hlt : b < w.heap.size := by
    rcases Nat.lt_or_ge b w.heap.size with h' | h'
    · exact h'
    · simp [Array.getElem?_eq_none h'] at hb
  obtain ⟨g, s, dr, h1, h2, s1, s2, d, hc, hr⟩ := h.ex
  have e1 : h1 b = some o := by rw [hc]; simp
  have g2 : h2 b = none := by rcases d b with e | e; rw [e1] at e; cases e; exact e
  have rb : κ.ro b = none := by
    rcases dr b with e | e
    · rw [s1 b _ e1] at e; cases e
    · exact e
  have other : ∀ x', x' ≠ b → wh (w.putObj b o') x' = wh w x' := fun x' hx => World.putObj_heap_other hx
  have atb : wh (w.putObj b o') b = some o' := World.putObj_heap_same hlt
  refine ⟨h.os, h.tape, h.out, ?_, join (fun b' => if b' = b then some o' else none) h2, ?_, ?_, ?_⟩
  · intro x' o e
    have : x' ≠ b := fun k => by rw [k, rb] at e; cases e
    rw [other x' this]; exact h.ro x' o e
  · refine join_sub ?_ ?_
    · intro x' o e
      by_cases k : x' = b
      · subst k; simp at e; rw [atb, e]
      · simp [k] at e
    · intro x' o e
      have : x' ≠ b := fun k => by rw [k, g2] at e; cases e
      rw [other x' this]; exact s x' o (s2 x' o e)
  · refine Dsj.symm (dsj_join ?_ ?_)
    · intro x'
      by_cases k : x' = b
      · left; rw [k]; exact rb
      · right; simp [k]
    · exact (Dsj.sub dr s2 (Sub.refl _)).symm
  · refine ⟨_, h2, sub_join_l _ _, sub_join_r ?_, ?_, rfl, hr⟩
    all_goals
      intro x'
      by_cases k : x' = b
      · right; rw [k]; exact g2
      · left; simp [k]
theorem Sat.pob_new {κ : Kap} {w : World} {cs : List HProp} (h : Sat κ w cs) (o : Obj) : Sat κ (w.alloc o) (pob w.heap.size o :: cs) := by
  obtain ⟨g, s, dr, hr⟩ := h.ex
  have fresh : ∀ (k : Hp), Sub k (wh w) → k w.heap.size = none := by
    intro k hk
    cases e : k w.heap.size with
    | none => rfl
    | some o => have := hk _ _ e; simp [wh] at this
  have old : ∀ x' o', wh w x' = some o' → wh (w.alloc o) x' = some o' := by
    intro x' o' e
    simp only [wh, World.alloc] at e ⊢
    have hlt : x' < w.heap.size := by
      rcases Nat.lt_or_ge x' w.heap.size with h' | h'
      · exact h'
      · simp [Array.getElem?_eq_none h'] at e
    rw [Array.getElem?_push_lt hlt]
    rw [Array.getElem?_eq_getElem hlt] at e
    exact e
  have d0 : Dsj (fun b' => if b' = w.heap.size then some o else none) g := by
    intro x'
    by_cases k : x' = w.heap.size
    · right; rw [k]; exact fresh g s
    · left; simp [k]
  refine ⟨h.os, h.tape, h.out, fun x' o' e => old x' o' (h.ro x' o' e), join (fun b' => if b' = w.heap.size then some o else none) g, ?_, ?_, ?_⟩
  · refine join_sub ?_ fun x' o' e => old x' o' (s x' o' e)
    intro x' o' e
    by_cases k : x' = w.heap.size
    · subst k; simp at e; rw [← e]; exact World.alloc_heap_new w o
    · simp [k] at e
  · refine Dsj.symm (dsj_join ?_ dr.symm)
    intro x'
    by_cases k : x' = w.heap.size
    · left; rw [k]; exact fresh _ h.ro
    · right; simp [k]
  · exact ⟨_, g, sub_join_l _ _, sub_join_r d0, d0, rfl, hr⟩

/-- A call of yield: one round of the loop. -/
def YieldT (P : Program) (l : Nat) (vs : List Value) (w : World) (R : World → Prop) : Prop :=
  ∃ r : Loop, w.heap[l]? = some (.loop r) ∧ vs.length = r.params.size ∧
    RoundIn Fence.wide 0 P l r.fn ((r.params.zip vs.toArray).foldl (fun tmps (t, a) => tmps.setIfInBounds t a) r.tmps) r.assign r.body w fun e w' => e = .returned (.bool true) ∧ R w'
/-- What a loop does with each that it is handed: 'C s' is owned ahead of it, 'C (step s x)' behind it. -/
def Feed {σ α : Type} (P : Program) (κ : Kap) (l : Nat) (enc : α → List Value) (ok : σ → α → Prop) (C : σ → HProp) (step : σ → α → σ) : Prop :=
  ∀ s x F w, ok s x → Sat κ w (C s :: F) → YieldT P l (enc x) w fun w' => Sat κ w' (C (step s x) :: F)
def okF {σ α : Type} (ok : σ → α → Prop) (step : σ → α → σ) : σ → List α → Prop
  | _, [] => True
  | s, x :: xs => ok s x ∧ okF ok step (step s x) xs
theorem okF_app {σ α : Type} {ok : σ → α → Prop} {step : σ → α → σ} : ∀ (a : List α) (s : σ) (b : List α), okF ok step s (a ++ b) ↔ okF ok step s a ∧ okF ok step (a.foldl step s) b := by
  intro a
  induction a with
  | nil => intro s b; simp [okF]
  | cons x a ih => intro s b; simp [okF, ih, and_assoc]

section
variable {P : Program} {ops : Array Oper} {Q : Exit → Act → World → Prop} {n : Nd} {κ : Kap} {rest : List Oper} {l : List Oper} {L : List Nat} {W : List (Nat × Nat × List Value)} {fuel : Nat} {done : List Nat} {fr : List (Nat × Value)} {cs : List HProp}
variable {dst : Option Nat} {d : Nat} {op : Op} {ty : TypeId} {pos : String} {af : Array Edge} {g : Option (Nat × Bool)}
theorem OpN.yield {σ α : Type} {enc : α → List Value} {ok : σ → α → Prop} {C : σ → HProp} {step : σ → α → σ} {lp : Nat} {c : Operand} {xs : List Operand} {ts : Array TypeId} {s : σ} {x : α} {F : List HProp} (hfeed : Feed P κ lp enc ok C step)
    (hok : ok s x) (hf : ev fr c = some (.func (.yield lp) #[] #[])) (hx : evs fr xs = some (enc x)) :
    OpN P n κ ⟨dst, .call ⟨.value c, xs.toArray, ts⟩, ty, pos, af, g⟩ fr (C s :: F) (fun v cs' => v = .bool true ∧ cs' = C (step s x) :: F) := by
  intro a w next Q ha hs hn
  obtain ⟨r, hr, hlen, hrd⟩ := hfeed s x F w hok hs
  have hm := evs_map ha hx
  have hrun : (execOp a.eval ⟨dst, .call ⟨.value c, xs.toArray, ts⟩, ty, pos, af, g⟩).run P w = .ok (.round lp r.fn ((r.params.zip (enc x).toArray).foldl (fun tmps (t, a) => tmps.setIfInBounds t a) r.tmps) r.assign r.body) w := by
    simp only [execOp, resolve, ha.eval hf, Deferred.ofValue, Sem.run_bind, Sem.run_pure, Result.andThen_ok, invoke]
    have e : ((#[] : Array Value) ++ Array.map a.eval xs.toArray) = (enc x).toArray := by simp [hm]
    rw [e, run_yield hr (by simpa using hlen)]
  simp only [Oper.wpY, hrun, Oper.upY]
  refine RoundIn.mono hrd fun e w' ⟨he, hs'⟩ => ?_
  subst he
  exact hn _ _ w' ⟨rfl, rfl⟩ hs'
theorem St.yd {σ α : Type} {enc : α → List Value} {ok : σ → α → Prop} {C : σ → HProp} {step : σ → α → σ} {lp : Nat} {c : Operand} {xs : List Operand} {ts : Array TypeId} {s : σ} (x : α) {F : List HProp} (hfeed : Feed P κ lp enc ok C step)
    (hok : ok s x) (k : St P ops Q n κ rest ((d, .bool true) :: fr) (C (step s x) :: F)) (h : ev fr c = some (.func (.yield lp) #[] #[]) ∧ evs fr xs = some (enc x) := by exact ⟨rfl, rfl⟩)
    (hd : Nat.blt d n.n = true := by rfl) (hw : wantedF ops fr g true = true := by rfl) : St P ops Q n κ (⟨some d, .call ⟨.value c, xs.toArray, ts⟩, ty, pos, af, g⟩ :: rest) fr (C s :: F) :=
  .nn (.yield hfeed hok h.1 h.2) (fun _ _ ⟨e, e'⟩ => by rw [e, e']; exact k) hd hw
theorem Sd.yd {σ α : Type} {enc : α → List Value} {ok : σ → α → Prop} {C : σ → HProp} {step : σ → α → σ} {lp : Nat} {c : Operand} {xs : List Operand} {ts : Array TypeId} {s : σ} (i : Nat) (x : α) {F : List HProp} (hfeed : Feed P κ lp enc ok C step)
    (hok : ok s x) (k : Sd P l Q L W n κ fuel (i :: done) ((d, .bool true) :: fr) (C (step s x) :: F)) (hi : getO l i = some ⟨some d, .call ⟨.value c, xs.toArray, ts⟩, ty, pos, af, g⟩ := by rfl)
    (h : ev fr c = some (.func (.yield lp) #[] #[]) ∧ evs fr xs = some (enc x) := by exact ⟨rfl, rfl⟩) (hW : WOk F W := by infer_instance)
    (hd : Nat.blt d n.n = true := by rfl) (hw : wantedF l.toArray fr g true = true := by rfl) (hr : Region.ready .any l.toArray (listedBy l.length done) = [i] := by kernel_rfl) : Sd P l Q L W n κ (fuel + 1) done fr (C s :: F) :=
  .nn i (fr' := fun v => (d, v) :: fr) hi hr hw (.yield hfeed hok h.1 h.2) (fun _ _ hf => hf.put hd) (fun _ _ ⟨_, e'⟩ κ w hs _ => by rw [e'] at hs; exact hW.out hs.rows) (fun _ _ ⟨e, e'⟩ => by rw [e, e']; exact k)

/- A round's own code. -/
def noDefB (l : List Oper) : Bool := l.all fun o => match o.op with
  | .defer _ => false
  | _ => true
theorem noDefB_spec {l : List Oper} (h : noDefB l = true) : ∀ o ∈ l, NoDef o := by
  intro o ho c e
  have := List.all_eq_true.1 h o ho
  rw [e] at this; cases this
/-- A piece of a round's code. -/
def CoR (P : Program) (Q : Exit → Act → World → Prop) (lp : Nat) (n : Nd) (κ : Kap) (c : Code) (fr : List (Nat × Value)) (cs : List HProp) : Prop :=
  ∀ a w, Fr n a fr → Sat κ w cs → c.wpIn (fen (some lp)) 0 P Q a w
theorem CoR.seq {lp : Nat} {x y : Code} (k : CoR P (Exit.then (y.wpIn (fen (some lp)) 0 P Q) Q) lp n κ x fr cs) : CoR P Q lp n κ (.seq x y) fr cs := fun a w hf hs => wpIn_seq (k a w hf hs)
theorem CoR.block {lp id : Nat} {c : Code} (k : CoR P (Exit.inBlock id Q) lp n κ c fr cs) : CoR P Q lp n κ (.block id c) fr cs := fun a w hf hs => wpIn_block (k a w hf hs)
theorem CoR.reg {lp id : Nat} {l : List Oper} (k : St P l.toArray Q n κ l fr cs) (h : noDefB l = true := by rfl) : CoR P Q lp n κ (.region id l.toArray false) fr cs :=
  fun a w hf hs => wpR_region_litY (noDefB_spec h) (k a w hf hs)
theorem CoR.regD {lp id : Nat} (W : List (Nat × Nat × List Value)) (L : List Nat) (k : Sd P l Q L W n κ l.length [] fr cs) (h : noDefB l = true := by rfl) (hm : P.follows .mixedOrders = true := by kernel_rfl) : CoR P Q lp n κ (.region id l.toArray true) fr cs := by
  intro a w hf hs
  have hd : ∀ (i : Nat) o, l.toArray[i]? = some o → NoDef o := fun i o ho => noDefB_spec h o (List.mem_of_getElem? (by simpa using ho))
  have : (Code.region id l.toArray true).wpIn (fen (some lp)) 0 P (NoP Q) a w := wpR_region_anyY hd hm (wpAny_of_M _ _ _ _ (by
    have := k a { w with drawn := w.drawn + 1 } hf (hs.drawn _)
    simpa [listedBy] using this))
  exact wpIn_mono this NoP.imp
/-- On to what comes next. -/
theorem St.goR {lp : Nat} {y : Code} {Q' : Exit → Act → World → Prop} (k : CoR P Q' lp n κ y fr cs) (hq : ∀ a w, y.wpIn (fen (some lp)) 0 P Q' a w → Q .normal a w := by exact fun _ _ h => h) : St P ops Q n κ [] fr cs :=
  .nil fun a w hf hs => hq a w (k a w hf hs)

/-- The slots of a round: the loop's own ones, yield's arguments in the parameters. -/
def zipF : List Tmp → List Value → List (Nat × Value)
  | t :: ts, v :: vs => zipF ts vs ++ [(t, v)]
  | _, _ => []
theorem Fr.params : ∀ (ps : List Tmp) (vs : List Value) (tmps : Array Value) (fr : List (Nat × Value)), ps.length = vs.length → (∀ p ∈ ps, p < n.n) → Fr n ⟨tmps, n.ds⟩ fr →
    Fr n ⟨(ps.zip vs).foldl (fun tmps (t, a) => tmps.setIfInBounds t a) tmps, n.ds⟩ (zipF ps vs ++ fr) := by
  intro ps
  induction ps with
  | nil => intro vs tmps fr h _ hf; cases vs with
    | nil => exact hf
    | cons _ _ => simp at h
  | cons p ps ih =>
    intro vs tmps fr h hp hf
    cases vs with
    | nil => simp at h
    | cons v vs =>
      have h1 : Fr n ⟨tmps.setIfInBounds p v, n.ds⟩ ((p, v) :: fr) := Fr.put (a := ⟨tmps, n.ds⟩) hf (Nat.blt_eq.mpr (hp p (List.mem_cons_self ..)))
      have := ih vs _ ((p, v) :: fr) (by simpa using h) (fun q hq => hp q (List.mem_cons_of_mem _ hq)) h1
      simp only [List.zip_cons_cons, List.foldl_cons, zipF]
      simpa using this
/-- A loop's rounds, out of the walks of what it assigns and of its body. -/
theorem feed_of {σ α ι ι2 : Type} {lp : Nat} {r : Loop} {enc : α → List Value} {ok : σ → α → Prop} {step : σ → α → σ} (hst : r.state = .ready) (hpd : r.pending = none) (hlen : ∀ x, (enc x).length = r.params.size)
    (p : σ → ι → Prop) (X : σ → ι → List HProp) (hn : n.ds = []) (hp : ∀ t ∈ r.params, t < n.n) (hfr : Fr n ⟨r.tmps, []⟩ fr) (I2 : ι2 → List (Nat × Value)) (X2 : ι2 → List HProp) (q : σ → ι → α → ι2 → Prop)
    (hA : ∀ s i x F, ok s x → p s i → CoR P (Exit.then (fun a w => ∃ j, q s i x j ∧ Fr n a (I2 j) ∧ Sat κ w (pob lp (.loop r) :: (X2 j ++ F))) (fun _ _ _ => False)) lp n κ r.assign (zipF r.params.toList (enc x) ++ fr) (pob lp (.loop r) :: (X s i ++ F)))
    (hB : ∀ s i x j F, ok s x → p s i → q s i x j → CoR P (fun e _ w => match e with
        | .normal => ∃ i', p (step s x) i' ∧ Sat κ w (pob lp (.loop { r with state := .busy }) :: (X (step s x) i' ++ F))
        | _ => False) lp n κ r.body (I2 j) (pob lp (.loop { r with state := .busy }) :: (X2 j ++ F))) :
    Feed P κ lp enc ok (fun s => exB (p s) fun i => pob lp (.loop r) :: X s i) step := by
  intro s x F w hok hs
  obtain ⟨i, hi, hs⟩ : ∃ i, p s i ∧ Sat κ w (pob lp (.loop r) :: (X s i ++ F)) := by
    obtain ⟨g, s0, d0, hg⟩ := hs.ex
    obtain ⟨i, hi, hx⟩ := exB_out hg
    exact ⟨i, hi, hs.os, hs.tape, hs.out, hs.ro, g, s0, d0, hx⟩
  have hheap := hs.pob_heap
  refine ⟨r, hheap, hlen x, ?_⟩
  refine roundIn_of_wpIn (F := Fence.wide) trivial ?_
  have hf0 := Fr.params (n := n) r.params.toList (enc x) r.tmps fr (by rw [hlen]; simp) (fun t ht => hp t (Array.mem_toList_iff.1 ht)) (by rw [hn]; exact hfr)
  have ez : (r.params.toList.zip (enc x)).foldl (fun tmps (t, a) => tmps.setIfInBounds t a) r.tmps = (r.params.zip (enc x).toArray).foldl (fun tmps (t, a) => tmps.setIfInBounds t a) r.tmps := by
    rw [← Array.foldl_toList]; simp
  rw [ez, hn] at hf0
  have hA' := hA s i x F hok hi _ w hf0 hs
  refine wpIn_mono (F := Fence.inRound Fence.wide lp) hA' fun e a1 w1 h => ?_
  cases e with
  | normal =>
    obtain ⟨j, hj, hf1, hs1⟩ := h
    refine ⟨_, run_beginRound hs1.pob_heap hst, ?_⟩
    refine wpIn_mono (F := Fence.inRound Fence.wide lp) (hB s i x j F hok hi hj a1 _ hf1 hs1.pob_put) fun e a2 w2 h => ?_
    cases e with
    | normal =>
      obtain ⟨i', hi', hs2⟩ := h
      refine ⟨_, _, run_endRound none hs2.pob_heap, rfl, ?_⟩
      have hs3 := hs2.pob_put (o' := .loop r)
      have er : ({ state := .ready, pending := none, fn := r.fn, tmps := r.tmps, params := r.params, assign := r.assign, body := r.body, defers := r.defers } : Loop) = r := by cases r; simp_all
      simp only [Option.isNone_none, if_true] at *
      rw [er]
      exact hs3.imp fun g hg => exB_in i' hi' hg
    | _ => exact h.elim
  | _ => exact h.elim
end
end Go.Proofs.YtpcechnalfaajaaDoor

/- Ranges over functions: the statement; ends of functions with marks and deferred calls. -/
namespace Go.Proofs.YtpcechnalfaajaaDoor
open Go Go.Proofs

section
variable {P : Program} {ops : Array Oper} {Q : Exit → Act → World → Prop} {n : Nd} {κ : Kap} {rest : List Oper} {l : List Oper} {L : List Nat} {W : List (Nat × Nat × List Value)} {fuel : Nat} {done : List Nat} {fr : List (Nat × Value)} {cs : List HProp}
variable {dst : Option Nat} {d : Nat} {op : Op} {ty : TypeId} {pos : String} {af : Array Edge} {g : Option (Nat × Bool)}
theorem Co.rf {ι : Type} {gx : Operand} {ps : Array Tmp} {assign body : Code} {gf : FuncId} {fst cap : List Value} {v : Value} {p : ι → Prop} {cs' : ι → List HProp}
    (h : ∀ (lp rb : Nat) (r : Loop), r.state = .ready → r.pending = none → r.params = ps → r.assign = assign → r.body = body → Fr ⟨n.n, []⟩ ⟨r.tmps, []⟩ fr →
      Te P gf (fst ++ [.func (.yield lp) #[] #[]] ++ cap) κ (pob lp (.loop r) :: pob rb (.deferred (some [])) :: cs) p (fun _ : ι => v) (fun i => pob lp (.loop r) :: pob rb (.deferred (some [])) :: cs' i))
    (k : ∀ rb i, p i → ∀ a w, Fr ⟨n.n, ⟨.collected rb, #[]⟩ :: n.ds⟩ a fr → Sat κ w (pob rb (.deferred (some [])) :: cs' i) → Q .normal a w)
    (hg : ev fr gx = some (.func (.func gf) fst.toArray cap.toArray) := by rfl) (hc : Cal P gf := by infer_instance) : Co P Q n κ (.rangeFunc gx ps assign body) fr cs := by
  intro a w hf hs
  refine (wpIn_wide (n := 0)).1 (wpIn_rangeFunc (F := Fence.wide) (n := 0) fun fn _ => ?_)
  have hs1 := (hs.pob_new (.deferred (some []))).pob_new (.loop { state := .ready, pending := none, fn, tmps := a.tmps, params := ps, assign, body, defers := w.heap.size })
  have hsz : (w.alloc (.deferred (some []))).heap.size = w.heap.size + 1 := World.size_alloc ..
  rw [hsz] at hs1
  generalize hW : (w.alloc (.deferred (some []))).alloc (.loop { state := .ready, pending := none, fn, tmps := a.tmps, params := ps, assign, body, defers := w.heap.size }) = W1 at *
  have hres : (resolve a.eval (rangeCall gx (w.heap.size + 1)) 0).run P W1 = .ok { target := .fn (.func gf) cap.toArray, args := fst.toArray ++ #[Value.func (.yield (w.heap.size + 1)) #[] #[]] } W1 := by
    have e1 : Array.map a.eval #[Operand.const (Value.func (.yield (w.heap.size + 1)) #[] #[])] = #[Value.func (.yield (w.heap.size + 1)) #[] #[]] := by simp [Act.eval]
    simp only [resolve, hf.eval hg, Deferred.ofValue, Sem.run_bind, Sem.run_pure, Result.andThen_ok, e1]
  have hinv : (invoke (.fn (.func gf) cap.toArray) (fst.toArray ++ #[Value.func (.yield (w.heap.size + 1)) #[] #[]])).run P W1 = .ok (.enter gf (fst ++ [Value.func (.yield (w.heap.size + 1)) #[] #[]] ++ cap).toArray) W1 := by
    have e : (fst.toArray ++ #[Value.func (.yield (w.heap.size + 1)) #[] #[]] ++ cap.toArray : Array Value) = (fst ++ [Value.func (.yield (w.heap.size + 1)) #[] #[]] ++ cap).toArray := by simp
    simp only [invoke]
    rw [e, run_enter]
  have henter := run_enterLoop_outer (P := P) (w := w) fn a.tmps ps assign body
  rw [hW] at henter
  have hfr : Fr ⟨n.n, []⟩ ⟨a.tmps, []⟩ fr := ⟨hf.size, rfl, hf.at_⟩
  have hcall := h (w.heap.size + 1) w.heap.size { state := .ready, pending := none, fn, tmps := a.tmps, params := ps, assign, body, defers := w.heap.size } rfl rfl rfl rfl rfl hfr W1 hs1
  refine ⟨w.heap.size + 1, [{ target := .collected w.heap.size, args := #[] }], W1, { target := .fn (.func gf) cap.toArray, args := fst.toArray ++ #[Value.func (.yield (w.heap.size + 1)) #[] #[]] }, W1, gf, (fst ++ [Value.func (.yield (w.heap.size + 1)) #[] #[]] ++ cap).toArray, W1, henter, hres, fun _ _ => trivial, hinv, fun h => (by cases h), (callsIn_wide (n := 0 - 1)).2 ?_⟩
  refine hcall.mono fun e w' ⟨i, hi, he, hs2⟩ => ?_
  subst he
  refine ⟨none, _, run_endLoop hs2.pob_heap (by simp), ?_⟩
  exact k w.heap.size i hi _ _ ⟨hf.size, by simp [hf.defers], hf.at_⟩ hs2.pob_put.rows
/-- A function that ranges over functions, or that defers calls. -/
theorem calls_enterM {f : FuncId} {fn : Func} {c : Code} {args : List Value} {w : World} {R : Ending → World → Prop} (hf : P.funcs[f]? = some fn) (hb : fn.body = some c) (hl : Nat.ble args.length fn.ntmps = true) (hs : Sat κ w cs)
    (h : Co P (bodyPostM Fence.wide 0 P fn R) ⟨fn.ntmps, []⟩ κ c (enumF 0 args) cs) : Calls P f args.toArray w R := by
  have hl' := Nat.le_of_ble_eq_true hl
  refine (callsIn_wide (n := 0)).1 (callsIn_of_wp_marks (F := Fence.wide) hf hb trivial ((wpIn_wide (n := 0)).2 (h _ w ⟨by simp; omega, rfl, fun d v e => ?_⟩ hs)))
  obtain ⟨_, h2⟩ := enumF_look args 0 d v e
  have hlt : d < args.length := by
    rcases Nat.lt_or_ge d args.length with h' | h'
    · exact h'
    · simp [List.getElem?_eq_none h'] at h2
  simp only [Array.getElem?_append]
  simp [hlt]
  simpa [List.getElem?_eq_getElem hlt] using h2
theorem Tr.enterM {f : FuncId} {fn : Func} {c : Code} {args : List Value} {v : Value} {cs' : List HProp} (hf : P.funcs[f]? = some fn) (hb : fn.body = some c) (hl : Nat.ble args.length fn.ntmps = true)
    (h : Co P (bodyPostM Fence.wide 0 P fn fun e w' => e = .returned v ∧ Sat κ w' cs') ⟨fn.ntmps, []⟩ κ c (enumF 0 args) cs) : Tr P f args κ cs v cs' := fun _ hs => calls_enterM hf hb hl hs h
theorem Te.enterM {ι : Type} {f : FuncId} {fn : Func} {c : Code} {args : List Value} {p : ι → Prop} {r : ι → Value} {cs' : ι → List HProp} (hf : P.funcs[f]? = some fn) (hb : fn.body = some c) (hl : Nat.ble args.length fn.ntmps = true)
    (h : Co P (bodyPostM Fence.wide 0 P fn fun e w' => ∃ i, p i ∧ e = .returned (r i) ∧ Sat κ w' (cs' i)) ⟨fn.ntmps, []⟩ κ c (enumF 0 args) cs) : Te P f args κ cs p r cs' := fun _ hs => calls_enterM hf hb hl hs h
instance {fn : Func} {R : Ending → World → Prop} : RetTo .ret (bodyPostM Fence.wide 0 P fn R) (bodyPostM Fence.wide 0 P fn R .ret) := ⟨fun _ _ h => h⟩
/-- A return behind one range over a function: one result. -/
theorem Co.r1M {fn : Func} {R : Ending → World → Prop} {r : ResultVar} {v : Value} {rb : Nat} (k : ∀ w, Sat κ w cs → R (.returned v) w)
    (h : RetTo .ret Q (bodyPostM Fence.wide 0 P fn R .ret) ∧ fn.results = #[r] ∧ Rv P n κ fr cs r v := by refine ⟨?_, ?_, ?_⟩; infer_instance; rfl; first | exact .t | exact .c) (hn : n.ds = [⟨.collected rb, #[]⟩] := by rfl) :
    Co P Q n κ .ret fr (pob rb (.deferred (some [])) :: cs) := by
  refine .ret fun a w hf hs => h.1.out a w ?_
  show LeavesInM Fence.wide 0 P fn a.tmps R a.defers .returning w
  rw [hf.defers, hn]
  refine ⟨by simp, .inl ⟨rb, _, rfl, run_takeDeferred hs.pob_heap, ?_⟩⟩
  have hs2 := (hs.pob_put (o' := .deferred none)).rows
  refine ⟨v, ?_, k _ hs2⟩
  have h2 := h.2.2 a _ hf hs2
  rw [results_eq, h.2.1]; simp [h2]
end
end Go.Proofs.YtpcechnalfaajaaDoor

/- index: an Index as the list that it holds; Len, Get, Put. -/
namespace Go.Proofs.YtpcechnalfaajaaDoor
open Go Go.Proofs

theorem putL_len {key : Num} {v : Int} {l : List KV} (h : Srt l) : (putL key v l).length = l.length + (if (getL key l).isNone then 1 else 0) := by
  induction l with
  | nil => simp [putL, getL]
  | cons x t ih =>
    obtain ⟨k, w⟩ := x
    unfold Srt at h
    obtain ⟨h1, h2⟩ := List.pairwise_cons.1 h
    by_cases e : k = key
    · simp [putL, getL, e]
    · have e2 : getL key ((k, w) :: t) = getL key t := by simp [getL, e]
      rw [e2]
      by_cases hlt : key.toNat < k.toNat
      · have : getL key t = none := getL_no key t fun p hp e => by have := h1 p hp; rw [e] at this; simp at this; omega
        simp [putL, e, hlt, this]
      · simp [putL, e, hlt, ih h2]; omega
def okO (m : List KV) : Option (Tree × Nat) → Prop
  | none => m = []
  | some (t, _) => Ok t ∧ cntT t = m.length ∧ flatT t = m
/-- An Index that holds this. -/
def ixB (bx : Nat) (m : List KV) : HProp := exB (okO m) fun o => ixC bx o m.length []
theorem ixC_app (bx : Nat) (o : Option (Tree × Nat)) (n : Nat) (cs : List HProp) : ixC bx o n [] ++ cs = ixC bx o n cs := by cases o <;> rfl
theorem ix_out {κ : Kap} {w : World} {bx : Nat} {m : List KV} {cs : List HProp} (h : Sat κ w (ixB bx m :: cs)) : ∃ o, okO m o ∧ Sat κ w (ixC bx o m.length cs) := by
  obtain ⟨g, s0, d0, hg⟩ := h.ex
  obtain ⟨o, ho, hx⟩ := exB_out hg
  rw [ixC_app] at hx
  exact ⟨o, ho, h.os, h.tape, h.out, h.ro, g, s0, d0, hx⟩
theorem ix_in {κ : Kap} {w : World} {bx : Nat} {m : List KV} {cs : List HProp} (o : Option (Tree × Nat)) (ho : okO m o) (h : Sat κ w (ixC bx o m.length cs)) : Sat κ w (ixB bx m :: cs) :=
  h.imp fun g hg => exB_in o ho (by rw [ixC_app]; exact hg)
theorem lenB_tr (bx : Nat) (m : List KV) (κ : Kap) (cs : List HProp) : Tr Tryd.prog 38 [.pointer (some ⟨bx, 0, none⟩)] κ (ixB bx m :: cs) (.int .i64 m.length) (ixB bx m :: cs) := by
  intro w hs
  obtain ⟨o, ho, hs⟩ := ix_out hs
  exact (xlen_tr bx o m.length κ cs w hs).mono fun e w' ⟨h1, h2⟩ => ⟨h1, ix_in o ho h2⟩
theorem getX_flat {key : Num} {m : List KV} {o : Option (Tree × Nat)} (ho : okO m o) (hm : Srt m) : getX key o = getL key m := by
  cases o with
  | none => have : m = [] := ho; rw [this]; rfl
  | some tb =>
    obtain ⟨t, b⟩ := tb
    obtain ⟨h1, _, h3⟩ := ho
    show getT key t = _
    rw [getT_flat key t h1 (by rw [h3]; exact hm), h3]
theorem getB_tr (bx : Nat) (m : List KV) (hm : Srt m) (hl : m.length < 800) (key : Num) (κ : Kap) (cs : List HProp) :
    Tr Tryd.prog 47 [.pointer (some ⟨bx, 0, none⟩), .agg (nm key).toArray] κ (ixB bx m :: cs) (.tuple #[.int .i64 ((getL key m).getD 0), .bool (getL key m).isSome]) (ixB bx m :: cs) := by
  intro w hs
  obtain ⟨o, ho, hs⟩ := ix_out hs
  have hok : okX o := by
    cases o with
    | none => trivial
    | some tb => obtain ⟨t, b⟩ := tb; exact ⟨ho.1, by rw [ho.2.1]; omega⟩
  rw [← getX_flat ho hm]
  exact (get_tr bx o hok m.length key κ cs w hs).mono fun e w' ⟨h1, h2⟩ => ⟨h1, ix_in o ho h2⟩
theorem putB_tr (bx : Nat) (m : List KV) (hm : Srt m) (hl : m.length < 700) (key : Num) (v : Int) (κ : Kap) (cs : List HProp) :
    Tr Tryd.prog 61 [.pointer (some ⟨bx, 0, none⟩), .agg (nm key).toArray, .int .i64 v] κ (ixB bx m :: cs) (.tuple #[]) (ixB bx (putL key v m) :: cs) := by
  refine .enter Tryd.func61 rfl rfl ?_
  refine .satx (ι := Option (Tree × Nat)) (p := okO m) (cs' := fun o => ixC bx o m.length cs) (fun w hs => ix_out hs) fun o ho => ?_
  refine .seq ?_
  refine .reg ?_
  refine .bx fun b4 => ?_
  refine .go ?_
  rw [vc_agg]
  refine .jn (ι := Tree × Nat) (fun _ => [(0, .pointer (some ⟨bx, 0, none⟩)), (2, .int .i64 v), (4, .pointer (some ⟨b4, 0, none⟩))])
    (fun q => pts b4 (24, nm key) :: pts bx (86, [.pointer (some ⟨q.2, 0, none⟩), .int .i64 m.length]) :: tn q.1 q.2 :: cs) (fun q => Ok q.1 ∧ cntT q.1 = m.length ∧ flatT q.1 = m) ?_ fun q hq => ?_
  · cases o with
    | none =>
      refine .seq ?_
      refine .reg ?_
      refine .mv ?_
      refine .nc ?_
      refine .fa ?_
      refine .ld ?_
      refine .pnl ?_
      refine .go ?_
      refine .cond rfl (fun hc => ?_) (fun hc => by cases hc)
      have hm0 : m = [] := ho
      subst hm0
      refine .reg ?_
      refine .mv ?_
      refine .bz ?_
      refine .bx fun b14 => ?_
      refine .nc ?_
      refine .fa ?_
      refine .st ?_
      refine .ns 1 84 ?_
      refine .ns 1 3 ?_
      refine .ns 2 24 ?_
      refine .nil fun aa w hf hs => ⟨(.node [] [] [], b14), ⟨.mk rfl (.inl rfl) (fun _ h => by cases h), rfl, rfl⟩, hf.to (by repeat (first | exact trivial | refine ⟨rfl, ?_⟩)), ?_⟩
      have hs := hs.pm 6 [3, 0, 1, 2, 4, 5]
      refine Sat.pm 3 [1, 2, 0] (hs.imp fun g hg => node_in (ks := []) (vs := []) (ts := []) (b := b14) ⟨none, 0, none, 0, none, 0, []⟩ ⟨rfl, fun _ => rfl⟩ hg)
    | some tb =>
      obtain ⟨t, b⟩ := tb
      refine .seq ?_
      refine .reg ?_
      refine .mv ?_
      refine .nc ?_
      refine .fa ?_
      refine .ld ?_
      refine .pnl ?_
      refine .go ?_
      refine .cond rfl (fun hc => by cases hc) (fun hc => ?_)
      refine .skip fun aa w hf hs => ⟨(t, b), ho, hf.to (by repeat (first | exact trivial | refine ⟨rfl, ?_⟩)), hs⟩
  · obtain ⟨t, b⟩ := q
    obtain ⟨hok, hcnt, hflat⟩ := hq
    simp only at *
    obtain ⟨hok', hcnt'⟩ := putT_ok key v t hok
    obtain ⟨hflat', hnew⟩ := putT_flat key v t hok (by rw [hflat]; exact hm)
    rw [hflat] at hflat' hnew
    have hlen := putL_len (key := key) (v := v) hm
    rw [← hnew] at hlen
    rw [hcnt, ← hlen] at hcnt'
    refine .jn (ι := Unit) (fun _ => [(0, .pointer (some ⟨bx, 0, none⟩))])
      (fun _ => pts bx (86, [.pointer (some ⟨b, 0, none⟩), .int .i64 (putL key v m).length]) :: tn (putT key v t).1 b :: cs) (fun _ => True) ?_ fun _ _ => ?_
    · refine .seq ?_
      refine .regD [(bx, 0, [.pointer (some ⟨b, 0, none⟩), .int .i64 m.length]), (b4, 0, nm key)] [] ?_
      refine .mv 0 ?_
      refine .nc 1 ?_
      refine .fa 2 ?_
      refine .ld 3 ?_
      refine .ldw 4 ?_
      refine .mv 5 ?_
      refine .pm 3 [2, 0, 1] ?_
      refine .cl 6 (put_tr (sizeT t) t (Nat.le_refl _) hok (by omega) b key v κ _) ?_
      refine .go ?_
      refine .cond rfl (fun hc => ?_) (fun hc => ?_)
      · refine .reg ?_
        refine .mv ?_
        refine .nc ?_
        refine .fa ?_
        refine .ld ?_
        refine .ad ?_
        refine .nc ?_
        refine .fa ?_
        refine .st ?_
        refine .nil fun aa w hf hs => ⟨(), trivial, hf.to (by repeat (first | exact trivial | refine ⟨rfl, ?_⟩)), ?_⟩
        rw [hc] at hlen
        rw [hlen]
        exact hs.pm 3 [2, 0]
      · refine .skip fun aa w hf hs => ⟨(), trivial, hf.to (by repeat (first | exact trivial | refine ⟨rfl, ?_⟩)), ?_⟩
        rw [hc] at hlen
        rw [hlen]
        exact hs.pm 3 [2, 0]
    · generalize putT key v t = r at *
      obtain ⟨⟨lk, lv, lt⟩, fresh⟩ := r
      cases hok' with
      | mk h1 h2 h3 =>
      simp only at *
      have hcl : lk.length + cntK lt < 900 := by
        have : cntT (.node lk lv lt) = lk.length + cntK lt := by simp only [cntT]
        have h01 : (if fresh = true then 1 else 0) ≤ 1 := by split <;> omega
        rw [← this, hcnt', hlen]; omega
      have hokt : Ok (.node lk lv lt) := .mk h1 h2 h3
      refine .satx (ι := NodeI) (cs' := fun il => pts bx (86, [.pointer (some ⟨b, 0, none⟩), .int .i64 (putL key v m).length]) :: hdr b lk lv il (kidsP lt il.bs ++ cs)) (p := fun il => il.bs.length = lt.length ∧ (lt = [] → il.tp = none)) (fun w hs => by
        obtain ⟨g, sg, dg, h1, h2, s1, s2, d, hc, hr⟩ := hs.ex
        obtain ⟨i, hi, hh⟩ := node_out hr
        exact ⟨i, hi, hs.os, hs.tape, hs.out, hs.ro, g, sg, dg, h1, h2, s1, s2, d, hc, hh⟩) fun il hil => ?_
      refine .seq ?_
      refine .reg ?_
      refine .mv ?_
      refine .nc ?_
      refine .fa ?_
      refine .ld ?_
      refine .nc ?_
      refine .fa ?_
      refine .ld ?_
      refine .ln ?_
      refine .gt ?_
      refine .go ?_
      refine .sat (cs' := pts bx (86, [.pointer (some ⟨b, 0, none⟩), .int .i64 (putL key v m).length]) :: tn (.node lk lv lt) b :: cs) (fun w hs => hs.imp fun g hg => sepL_tail (fun g hg => node_in il hil hg) hg) ?_
      refine .cond rfl (fun h5 => ?_) (fun h5 => ?_)
      · have h5 : 5 < lk.length := by have := of_decide_eq_true h5; omega
        refine .seq ?_
        refine .reg ?_
        refine .mv ?_
        refine .nc ?_
        refine .fa ?_
        refine .ld ?_
        refine .as ?_
        refine .go ?_
        refine .seq ?_
        refine .reg ?_
        refine .mv ?_
        refine .mv ?_
        refine .bs fun b46 => ?_
        refine .bd ?_
        refine .bx fun b48 => ?_
        refine .nc ?_
        refine .fa ?_
        refine .st ?_
        refine .own b46 1 1 rfl ?_
        refine .ns 1 3 ?_
        refine .ns 2 24 ?_
        refine .go ?_
        refine .pm 6 [2, 0, 1, 3, 5, 4] ?_
        refine .sat (cs' := tn (.node [] [] [.node lk lv lt]) b48 :: pts bx (86, [.pointer (some ⟨b48, 0, none⟩), .int .i64 (putL key v m).length]) :: cs) (fun w hs => hs.imp fun g hg => node_in (ks := []) (vs := []) (ts := [.node lk lv lt]) (b := b48) ⟨none, 0, none, 0, some ⟨b46, 0, none⟩, 1, [b]⟩ ⟨rfl, fun h => by cases h⟩ hg) ?_
        refine .reg ?_
        refine .mv ?_
        refine .nc ?_
        refine .fa ?_
        refine .ld ?_
        refine .cl (part_tr [] [] [.node lk lv lt] 0 (by simp) lk lv lt rfl ⟨by omega, by omega⟩ h1 h2 ⟨rfl, rfl⟩ (by simp) b48 κ _) ?_
        refine .e0 fun w hs => ?_
        refine ⟨rfl, ?_⟩
        obtain ⟨o1, o2⟩ := part_ok (ks := []) (vs := []) (ts := [.node lk lv lt]) (j := 0) (lk := lk) (lv := lv) (lt := lt) rfl rfl (by simp) (fun t ht => by simp at ht; rw [ht]; exact hokt) rfl (by omega)
        have o3 := part_flat (ks := []) (vs := []) (ts := [.node lk lv lt]) (j := 0) (lk := lk) (lv := lv) (lt := lt) rfl rfl (by simp) rfl (by omega) h1 h2
        refine ix_in (some (partT (.node [] [] [.node lk lv lt]) 0, b48)) ⟨o1, ?_, ?_⟩ (hs.pm 2 [1, 0])
        · rw [o2, ← hcnt']; simp [cntT, cntK]
        · rw [o3, ← hflat']; simp [flatT, flatK, weave, wr]
      · refine .e0 fun w hs => ?_
        refine ⟨rfl, ix_in (some (.node lk lv lt, b)) ⟨hokt, hcnt', hflat'⟩ hs⟩
end Go.Proofs.YtpcechnalfaajaaDoor

/- What a walk has gone over, in plain Lean. -/
namespace Go.Proofs.YtpcechnalfaajaaDoor
open Go Go.Proofs

def kidF (ts : List Tree) (k : Nat) : List KV := match ts[k]? with
  | some t => flatT t
  | none => []
/-- What lies ahead of the k-th key's kid. -/
def preW (ks : List Num) (vs : List Int) (ts : List Tree) (k : Nat) : List KV := match ts with
  | [] => (ks.take k).zip (vs.take k)
  | t :: ts => wl (ks.take k) (vs.take k) ((flatK (t :: ts)).take k)
theorem preW_zero (ks : List Num) (vs : List Int) (ts : List Tree) : preW ks vs ts 0 = [] := by cases ts <;> simp [preW, wl]
theorem wl_snoc : ∀ (a : List Num) (b : List Int) (c : List (List KV)) (k : Num) (v : Int) (x : List KV), b.length = a.length → c.length = a.length → wl (a ++ [k]) (b ++ [v]) (c ++ [x]) = wl a b c ++ (x ++ [(k, v)]) := by
  intro a
  induction a with
  | nil =>
    intro b c k v x h1 h2
    have : b = [] := List.eq_nil_of_length_eq_zero h1
    have : c = [] := List.eq_nil_of_length_eq_zero h2
    subst_vars
    simp [wl]
  | cons y a ih =>
    intro b c k v x h1 h2
    match b, c, h1, h2 with
    | b :: bs, c :: cs, h1, h2 =>
      have := ih bs cs k v x (by simpa using h1) (by simpa using h2)
      simp only [List.cons_append, wl, this, List.append_assoc]
theorem preW_succ {ks : List Num} {vs : List Int} {ts : List Tree} (hv : vs.length = ks.length) (ht : ts = [] ∨ ts.length = ks.length + 1) {k : Nat} (hk : k < ks.length) :
    preW ks vs ts (k + 1) = preW ks vs ts k ++ (kidF ts k ++ [(ks[k], vs[k]'(by omega))]) := by
  have hkv : k < vs.length := by omega
  cases ts with
  | nil =>
    simp only [preW, kidF]
    rw [List.take_succ_eq_append_getElem hk, List.take_succ_eq_append_getElem hkv, List.zip_append (by simp [hv])]
    simp
  | cons t ts =>
    have hl : (t :: ts).length = ks.length + 1 := by rcases ht with h | h; · cases h
                                                     · exact h
    have hkt : k < (t :: ts).length := by omega
    simp only [preW, kidF]
    rw [List.take_succ_eq_append_getElem hk, List.take_succ_eq_append_getElem hkv, List.take_succ_eq_append_getElem (show k < (flatK (t :: ts)).length by rw [flatK_len]; exact hkt), wl_snoc _ _ _ _ _ _ (by simp [hv]) (by rw [List.length_take, List.length_take, flatK_len]; omega), flatK_get _ _ hkt, List.getElem?_eq_getElem hkt]
theorem preW_end {ks : List Num} {vs : List Int} {ts : List Tree} (hv : vs.length = ks.length) (ht : ts = [] ∨ ts.length = ks.length + 1) : flatT (.node ks vs ts) = preW ks vs ts ks.length ++ kidF ts ks.length := by
  cases ts with
  | nil =>
    simp only [preW, kidF, flat_leaf]
    rw [List.take_length, ← hv, List.take_length]; simp
  | cons t ts =>
    have hl : (t :: ts).length = ks.length + 1 := by rcases ht with h | h; · cases h
                                                     · exact h
    have hkt : ks.length < (t :: ts).length := by omega
    rw [flat_at hv hl ks.length hkt]
    simp only [preW, kidF, List.getElem?_eq_getElem hkt, List.drop_length]
    have : ∀ (b : List Int) (c : List (List KV)), wr [] b c = [] := by intro b c; rfl
    rw [this, List.append_nil]
theorem preW_pre {ks : List Num} {vs : List Int} {ts : List Tree} (hv : vs.length = ks.length) (ht : ts = [] ∨ ts.length = ks.length + 1) {k : Nat} (hk : k ≤ ks.length) : ∃ rest, flatT (.node ks vs ts) = preW ks vs ts k ++ rest := by
  have : ∀ m, k + m ≤ ks.length → ∃ rest, preW ks vs ts (k + m) = preW ks vs ts k ++ rest := by
    intro m
    induction m with
    | zero => intro _; exact ⟨[], by simp⟩
    | succ m ih =>
      intro hm
      obtain ⟨r, hr⟩ := ih (by omega)
      rw [← Nat.add_assoc, preW_succ hv ht (by omega), hr]
      exact ⟨r ++ (kidF ts (k + m) ++ [(ks[k + m], vs[k + m])]), by simp⟩
  obtain ⟨r, hr⟩ := this (ks.length - k) (by omega)
  rw [show k + (ks.length - k) = ks.length by omega] at hr
  rw [preW_end hv ht, hr]
  exact ⟨r ++ kidF ts ks.length, by simp⟩
end Go.Proofs.YtpcechnalfaajaaDoor

/- index: walk, All, Copy. -/
namespace Go.Proofs.YtpcechnalfaajaaDoor
open Go Go.Proofs

def encKV (p : KV) : List Value := [.agg (nm p.1).toArray, .int .i64 p.2]
theorem walk_tr {σ : Type} {κ : Kap} {lp : Nat} {ok : σ → KV → Prop} {C : σ → HProp} {step : σ → KV → σ} (hfeed : Feed Tryd.prog κ lp encKV ok C step) : ∀ (N : Nat) (t : Tree), sizeT t ≤ N → Ok t → cntT t < 900 → ∀ (b : Nat) (s : σ) (cs : List HProp), okF ok step s (flatT t) →
    Tr Tryd.prog 69 [.pointer (some ⟨b, 0, none⟩), .func (.yield lp) #[] #[]] κ (C s :: tn t b :: cs) (.bool true) (C ((flatT t).foldl step s) :: tn t b :: cs) := by
  intro N
  induction N with
  | zero => intro t hN hok; cases hok; simp only [sizeT] at hN; omega
  | succ N ih =>
    intro t hN hok hcnt b s cs hokF
    cases hok with
    | mk hv ht hsub =>
    rename_i ks vs ts
    have hcnt : ks.length + cntK ts < 900 := by simpa only [cntT] using hcnt
    refine .enter Tryd.func69 rfl rfl ?_
    refine .seq ?_
    refine .reg ?_
    refine .as ?_
    refine .go ?_
    refine .seq ?_
    refine .seq ?_
    refine .reg ?_
    refine .mv ?_
    refine .pnl ?_
    refine .go ?_
    refine .cond rfl (fun hc => by cases hc) (fun hc => ?_)   -- t8
    refine .satx (ι := NodeI) (cs' := fun i => C s :: hdr b ks vs i (kidsP ts i.bs ++ cs)) (p := fun i => i.bs.length = ts.length ∧ (ts = [] → i.tp = none)) (fun w hs => by
      obtain ⟨g, sg, dg, h1, h2, s1, s2, d, hc, hr⟩ := hs.ex
      obtain ⟨i, hi, hh⟩ := node_out hr
      exact ⟨i, hi, hs.os, hs.tape, hs.out, hs.ro, g, sg, dg, h1, h2, s1, s2, d, hc, hh⟩) fun i hi => ?_
    refine .go ?_
    refine .seq ?_
    refine .seq ?_
    refine .reg ?_
    refine .mv ?_
    refine .nc ?_
    refine .fa ?_
    refine .ld ?_
    refine .ln ?_
    refine .mv ?_
    refine .go ?_
    refine .block ?_
    refine .lp (fun k : Nat => [(0, .pointer (some ⟨b, 0, none⟩)), (1, .func (.yield lp) #[] #[]), (12, .slice i.kp ks.length i.kc), (13, .int .i64 ks.length), (14, .int .i64 k)])
      (fun k => C ((preW ks vs ts k).foldl step s) :: hdr b ks vs i (kidsP ts i.bs ++ cs)) (fun k => k ≤ ks.length) (fun k => ks.length - k) 0 (by omega) (by repeat (first | exact trivial | refine ⟨rfl, ?_⟩)) (by rw [preW_zero]; rfl) fun k hk => ?_
    refine .seq ?_
    refine .reg ?_
    refine .lt ?_
    refine .go ?_
    refine .seq ?_
    refine .cond rfl (fun hc => ?_) (fun hc => ?_)   -- t15
    · have hlt : k < ks.length := by have : (k : Int) < ks.length := of_decide_eq_true hc; omega
      refine .go ?_
      have hsucc := preW_succ hv ht hlt
      obtain ⟨rst, hrst⟩ := preW_pre hv ht (show k + 1 ≤ ks.length by omega)
      rw [hrst, hsucc, okF_app, okF_app, okF_app] at hokF
      generalize hS : (preW ks vs ts k).foldl step s = s1 at *
      have hgk : getV true (ks.flatMap nm) (((k : Nat) : Int).toNat * 2) 2 = some (.agg (nm ks[k]).toArray) := by
        have := flat_get nm 2 nm_len ks k 0 2 true (.agg (nm ks[k]).toArray) hlt rfl
        simpa using this
      have hgl : getV false (cells .i64 vs) (((k : Nat) : Int).toNat * 1) 1 = some (.int .i64 (vs[k]'(by omega))) := by
        rw [Nat.mul_one]
        have := cells_get .i64 vs k (by omega)
        simpa [List.getD, show k < vs.length by omega] using this
      refine .slp (p := i.kp) (cap := i.kc) (sz := 2) (n0 := ks.length) (by omega) (fun bk hbk _ => ?_)
      refine .slp (p := i.vp) (cap := i.vcap) (sz := 1) (n0 := vs.length) (by omega) (fun bv hbv _ => ?_)
      refine .seq ?_
      refine .block ?_
      refine .seq ?_
      refine .reg ?_
      refine .mv ?_
      unfold hdr
      rw [hbk, hbv]
      refine .ix ?_
      refine .lx hgk ?_
      refine .al fun b6 => ?_
      refine .as ?_
      refine .stw ?_
      refine .go ?_
      refine .seq ?_
      rw [vc_agg]
      by_cases hts : ts = []
      · subst hts
        have hbs : i.bs = [] := List.eq_nil_of_length_eq_zero (by rw [hi.1]; rfl)
        have htp := hi.2 rfl
        have hkf : kidF [] k = [] := rfl
        rw [hkf, List.nil_append] at hsucc
        rw [hkf] at hokF
        have hok1 : ok s1 (ks[k], vs[k]'(by omega)) := hokF.1.2.2.1
        generalize ks[k] = kk at *
        generalize vs[k]'(by omega) = vv at *
        refine .pm 2 [1, 0] ?_
        rw [htp]
        refine .regD [(b, 0, [.slice (some ⟨bk, 0, none⟩) ks.length i.kc, .slice (some ⟨bv, 0, none⟩) vs.length i.vcap, .slice none i.bs.length i.tc]), (b6, 0, nm kk), (bv, 0, cells .i64 vs)] [] ?_
        refine .mv 0 ?_
        refine .nc 1 ?_
        refine .fa 2 ?_
        refine .ld 3 ?_
        refine .nnl 4 ?_
        refine .mv 5 ?_
        refine .caseB 24 rfl (fun h => by cases h) (fun _ => ?_)
        refine .skip 6 ?_
        refine .skip 7 ?_
        refine .skip 8 ?_
        refine .skip 9 ?_
        refine .skip 10 ?_
        refine .skip 11 ?_
        refine .skip 12 ?_
        refine .skip 13 ?_
        refine .skip 14 ?_
        refine .skip 15 ?_
        refine .pf 16 ?_
        refine .mv 17 ?_
        refine .mv 18 ?_
        refine .ldw 19 ?_
        refine .mv 20 ?_
        refine .nc 21 ?_
        refine .fa 22 ?_
        refine .ld 23 ?_
        refine .mv 24 ?_
        refine .ix 25 ?_
        refine .lx 26 hgl ?_
        refine .yd 27 (kk, vv) hfeed hok1 ?_
        refine .nt 28 ?_
        refine .pf 29 ?_
        refine .go ?_
        refine .cond rfl (fun hc => by cases hc) (fun hc => ?_)
        refine .go ?_
        refine .reg ?_
        refine .ad ?_
        refine .mv ?_
        rw [show (k : Int) + 1 = ((k + 1 : Nat) : Int) by omega]
        refine .nil fun aa w hf hs => ⟨k + 1, by omega, by omega, hf.to (by repeat (first | exact trivial | refine ⟨rfl, ?_⟩)), ?_⟩
        rw [hsucc, List.foldl_append, hS]
        exact hs.pm 2 [0]
      · have htl : ts.length = ks.length + 1 := ht.resolve_left hts
        have hkt : k < ts.length := by omega
        have hkb : k < i.bs.length := by omega
        have hkf : kidF ts k = flatT ts[k] := by simp only [kidF, List.getElem?_eq_getElem hkt]
        rw [hkf] at hsucc hokF
        have hokA : okF ok step s1 (flatT ts[k]) := hokF.1.2.1
        have hok1 : ok ((flatT ts[k]).foldl step s1) (ks[k], vs[k]'(by omega)) := hokF.1.2.2.1
        have hsz := sizeK_at ts k hkt
        have hcj := cntK_at ts k hkt
        have hgv : getV false (i.bs.map ptrV) (((k : Nat) : Int).toNat * 1) 1 = some (ptrV i.bs[k]) := by
          rw [Nat.mul_one]; simp [getV, get1_eq, hkb]
        generalize ks[k] = kk at *
        generalize vs[k]'(by omega) = vv at *
        refine .slp (p := i.tp) (cap := i.tc) (sz := 1) (n0 := i.bs.length) (by omega) (fun bt hbt _ => ?_)
        have hsplit := kids_split ts i.bs k hkt hkb
        have hlist : kidsP ts i.bs ++ cs = kidsP (ts.take k) (i.bs.take k) ++ tn ts[k] i.bs[k] :: (kidsP (ts.drop (k + 1)) (i.bs.drop (k + 1)) ++ cs) := by rw [hsplit]; simp
        rw [hlist]
        refine .pm 2 [1, 0] ?_
        refine .sat (cs' := C s1 :: tn ts[k] i.bs[k] :: pts b6 (24, nm kk) :: pts b (130, [.slice (some ⟨bk, 0, none⟩) ks.length i.kc, .slice (some ⟨bv, 0, none⟩) vs.length i.vcap, .slice i.tp i.bs.length i.tc]) :: sl 2 (.slice (some ⟨bk, 0, none⟩) ks.length i.kc) (24, ks.flatMap nm) :: sl 1 (.slice (some ⟨bv, 0, none⟩) vs.length i.vcap) (3, cells .i64 vs) ::
          sl 1 (.slice i.tp i.bs.length i.tc) (84, i.bs.map ptrV) :: (kidsP (ts.take k) (i.bs.take k) ++ (kidsP (ts.drop (k + 1)) (i.bs.drop (k + 1)) ++ cs))) (fun w hs => hs.imp fun g hg => sepL_tail (fun g hg => sepL_out ([_, _, _, _, _] ++ kidsP (ts.take k) (i.bs.take k)) hg) hg) ?_
        rw [hbt]
        refine .regD [(b, 0, [.slice (some ⟨bk, 0, none⟩) ks.length i.kc, .slice (some ⟨bv, 0, none⟩) vs.length i.vcap, .slice (some ⟨bt, 0, none⟩) i.bs.length i.tc]), (b6, 0, nm kk), (bv, 0, cells .i64 vs), (bt, 0, i.bs.map ptrV)] [] ?_
        refine .mv 0 ?_
        refine .nc 1 ?_
        refine .fa 2 ?_
        refine .ld 3 ?_
        refine .nnl 4 ?_
        refine .mv 5 ?_
        refine .caseB 24 rfl (fun _ => ?_) (fun h => by cases h)
        refine .mv 6 ?_
        refine .nc 7 ?_
        refine .fa 8 ?_
        refine .ld 9 ?_
        refine .mv 10 ?_
        refine .ix 11 ?_
        refine .lx 12 hgv ?_
        refine .mv 13 ?_
        refine .cl 14 (ih ts[k] (by simp only [sizeT] at hN; omega) (hsub _ (List.getElem_mem hkt)) (by omega) i.bs[k] s1 _ hokA) ?_
        refine .nt 15 ?_
        refine .pt 16 ?_
        refine .mv 17 ?_
        refine .mv 18 ?_
        refine .ldw 19 ?_
        refine .mv 20 ?_
        refine .nc 21 ?_
        refine .fa 22 ?_
        refine .ld 23 ?_
        refine .mv 24 ?_
        refine .ix 25 ?_
        refine .lx 26 hgl ?_
        refine .yd 27 (kk, vv) hfeed hok1 ?_
        refine .nt 28 ?_
        refine .pf 29 ?_
        refine .go ?_
        refine .cond rfl (fun hc => by cases hc) (fun hc => ?_)
        refine .go ?_
        refine .reg ?_
        refine .ad ?_
        refine .mv ?_
        rw [show (k : Int) + 1 = ((k + 1 : Nat) : Int) by omega]
        refine .nil fun aa w hf hs => ⟨k + 1, by omega, by omega, hf.to (by repeat (first | exact trivial | refine ⟨rfl, ?_⟩)), ?_⟩
        rw [hsucc, List.foldl_append, hS, List.foldl_append]
        have hs := hs.pm 7 [0, 1, 3, 4, 5, 6]
        exact hs.imp fun g hg => sepL_tail (fun g hg => sepL_in ([_, _, _, _] ++ kidsP (ts.take k) (i.bs.take k)) hg) hg
    · have hkl : k = ks.length := by
        have : ¬ (k : Int) < ks.length := of_decide_eq_false hc
        omega
      subst hkl
      refine .xgo ?_
      have hend := preW_end hv ht
      rw [hend, okF_app] at hokF
      generalize hS : (preW ks vs ts ks.length).foldl step s = s1 at *
      by_cases hts : ts = []
      · subst hts
        have htp := hi.2 rfl
        have hkf : kidF [] ks.length = [] := rfl
        rw [hkf, List.append_nil] at hend
        refine .seq ?_
        refine .regD [(b, 0, [.slice i.kp ks.length i.kc, .slice i.vp vs.length i.vcap, .slice i.tp i.bs.length i.tc])] [] ?_
        refine .mv 0 ?_
        refine .nc 1 ?_
        refine .fa 2 ?_
        refine .ld 3 ?_
        refine .nl 4 ?_
        refine .mv 5 ?_
        rw [htp]
        refine .caseB 55 rfl (fun _ => ?_) (fun h => by cases h)
        refine .skip 6 ?_
        refine .skip 7 ?_
        refine .skip 8 ?_
        refine .skip 9 ?_
        refine .skip 10 ?_
        refine .skip 11 ?_
        refine .skip 12 ?_
        refine .skip 13 ?_
        refine .skip 14 ?_
        refine .skip 15 ?_
        refine .skip 16 ?_
        refine .skip 17 ?_
        refine .skip 18 ?_
        refine .pt 19 ?_
        refine .as 20 ?_
        refine .go ?_
        refine .r1 fun w hs => ?_
        refine ⟨rfl, ?_⟩
        rw [hend, hS]
        exact hs.imp fun g hg => sepL_tail (fun g hg => node_in i hi hg) hg
      · have htl : ts.length = ks.length + 1 := ht.resolve_left hts
        have hkt : ks.length < ts.length := by omega
        have hkb : ks.length < i.bs.length := by omega
        have hkf : kidF ts ks.length = flatT ts[ks.length] := by simp only [kidF, List.getElem?_eq_getElem hkt]
        rw [hkf] at hend hokF
        have hsz := sizeK_at ts _ hkt
        have hcj := cntK_at ts _ hkt
        have hgv : getV false (i.bs.map ptrV) (((ks.length : Nat) : Int).toNat * 1) 1 = some (ptrV i.bs[ks.length]) := by
          rw [Nat.mul_one]; simp [getV, get1_eq, hkb]
        refine .slp (p := i.tp) (cap := i.tc) (sz := 1) (n0 := i.bs.length) (by omega) (fun bt hbt _ => ?_)
        have hsplit := kids_split ts i.bs ks.length hkt hkb
        have hlist : kidsP ts i.bs ++ cs = kidsP (ts.take ks.length) (i.bs.take ks.length) ++ tn ts[ks.length] i.bs[ks.length] :: (kidsP (ts.drop (ks.length + 1)) (i.bs.drop (ks.length + 1)) ++ cs) := by rw [hsplit]; simp
        rw [hlist]
        refine .sat (cs' := C s1 :: tn ts[ks.length] i.bs[ks.length] :: pts b (130, [.slice i.kp ks.length i.kc, .slice i.vp vs.length i.vcap, .slice i.tp i.bs.length i.tc]) :: sl 2 (.slice i.kp ks.length i.kc) (24, ks.flatMap nm) :: sl 1 (.slice i.vp vs.length i.vcap) (3, cells .i64 vs) ::
          sl 1 (.slice i.tp i.bs.length i.tc) (84, i.bs.map ptrV) :: (kidsP (ts.take ks.length) (i.bs.take ks.length) ++ (kidsP (ts.drop (ks.length + 1)) (i.bs.drop (ks.length + 1)) ++ cs))) (fun w hs => hs.imp fun g hg => sepL_tail (fun g hg => sepL_out ([_, _, _, _] ++ kidsP (ts.take ks.length) (i.bs.take ks.length)) hg) hg) ?_
        rw [hbt]
        refine .seq ?_
        refine .regD [(b, 0, [.slice i.kp ks.length i.kc, .slice i.vp vs.length i.vcap, .slice (some ⟨bt, 0, none⟩) i.bs.length i.tc]), (bt, 0, i.bs.map ptrV)] [] ?_
        refine .mv 0 ?_
        refine .nc 1 ?_
        refine .fa 2 ?_
        refine .ld 3 ?_
        refine .nl 4 ?_
        refine .mv 5 ?_
        refine .caseB 55 rfl (fun h => by cases h) (fun _ => ?_)
        refine .mv 6 ?_
        refine .nc 7 ?_
        refine .fa 8 ?_
        refine .ld 9 ?_
        refine .mv 10 ?_
        refine .nc 11 ?_
        refine .fa 12 ?_
        refine .ld 13 ?_
        refine .ln 14 ?_
        refine .ix 15 ?_
        refine .lx 16 hgv ?_
        refine .mv 17 ?_
        refine .cl 18 (ih ts[ks.length] (by simp only [sizeT] at hN; omega) (hsub _ (List.getElem_mem hkt)) (by omega) i.bs[ks.length] s1 _ hokF.2) ?_
        refine .pf 19 ?_
        refine .as 20 ?_
        refine .go ?_
        refine .r1 fun w hs => ?_
        refine ⟨rfl, ?_⟩
        rw [hend, List.foldl_append, hS]
        rw [← hbt] at hs
        refine hs.imp fun g hg => sepL_tail (fun g hg => node_in i hi ?_) hg
        rw [hlist]
        exact sepL_in ([_, _, _, _] ++ kidsP (ts.take ks.length) (i.bs.take ks.length)) hg
theorem walknil_tr (yv : Value) (κ : Kap) (cs : List HProp) : Tr Tryd.prog 69 [.pointer none, yv] κ cs (.bool true) cs := by
  refine .enter Tryd.func69 rfl rfl ?_
  refine .seq ?_
  refine .reg ?_
  refine .as ?_
  refine .go ?_
  refine .seq ?_
  refine .seq ?_
  refine .reg ?_
  refine .mv ?_
  refine .pnl ?_
  refine .go ?_
  refine .cond rfl (fun hc => ?_) (fun hc => by cases hc)   -- t8
  refine .seq ?_
  refine .reg ?_
  refine .as ?_
  refine .go ?_
  refine .r1 fun w hs => ?_
  exact ⟨rfl, hs⟩
theorem all_tr {σ : Type} {κ : Kap} {lp : Nat} {ok : σ → KV → Prop} {C : σ → HProp} {step : σ → KV → σ} (hfeed : Feed Tryd.prog κ lp encKV ok C step) (bx : Nat) (m : List KV) (hl : m.length < 900) (s : σ) (cs : List HProp) (hok : okF ok step s m) :
    Tr Tryd.prog 56 [.pointer (some ⟨bx, 0, none⟩), .func (.yield lp) #[] #[]] κ (C s :: ixB bx m :: cs) (.tuple #[]) (C (m.foldl step s) :: ixB bx m :: cs) := by
  refine .enter Tryd.func56 rfl rfl ?_
  refine .satx (ι := Option (Tree × Nat)) (p := okO m) (cs' := fun o => ixC bx o m.length (C s :: cs)) (fun w hs => ix_out (hs.pm 2 [1, 0])) fun o ho => ?_
  cases o with
  | none =>
    have hm : m = [] := ho
    subst hm
    refine .reg ?_
    refine .mv ?_
    refine .nc ?_
    refine .fa ?_
    refine .ld ?_
    refine .mv ?_
    refine .cl (walknil_tr _ κ _) ?_
    refine .e0 fun w hs => ?_
    exact ⟨rfl, (ix_in none rfl hs).pm 2 [1, 0]⟩
  | some tb =>
    obtain ⟨t, b⟩ := tb
    obtain ⟨h1, h2, h3⟩ := ho
    refine .reg ?_
    refine .mv ?_
    refine .nc ?_
    refine .fa ?_
    refine .ld ?_
    refine .mv ?_
    refine .pm 3 [2, 1, 0] ?_
    refine .cl (walk_tr hfeed (sizeT t) t (Nat.le_refl _) h1 (by omega) b s _ (by rw [h3]; exact hok)) ?_
    refine .e0 fun w hs => ?_
    rw [h3] at hs
    exact ⟨rfl, (ix_in (some (t, b)) ⟨h1, h2, h3⟩ (hs.pm 3 [2, 1, 0])).pm 2 [1, 0]⟩
/-- One by one, rising, in a new list. -/
theorem foldl_putL : ∀ (m s : List KV), Srt (s ++ m) → m.foldl (fun s x => putL x.1 x.2 s) s = s ++ m := by
  intro m
  induction m with
  | nil => intro s _; simp
  | cons x m ih =>
    intro s h
    obtain ⟨k, v⟩ := x
    have hs : ∀ p ∈ s, p.1.toNat < k.toNat := by
      unfold Srt at h
      rw [List.pairwise_append] at h
      exact fun p hp => h.2.2 p hp (k, v) (List.mem_cons_self ..)
    have e : putL k v s = s ++ [(k, v)] := by
      have := putL_lt k v s [] hs
      rw [List.append_nil] at this; rw [this]; rfl
    simp only [List.foldl_cons, e]
    rw [ih _ (by rw [List.append_assoc]; exact h)]
    simp
theorem okF_putL : ∀ (m s : List KV), Srt (s ++ m) → s.length + m.length < 700 → okF (fun (s : List KV) _ => Srt s ∧ s.length < 700) (fun s x => putL x.1 x.2 s) s m := by
  intro m
  induction m with
  | nil => intro s _ _; trivial
  | cons x m ih =>
    intro s h hl
    obtain ⟨k, v⟩ := x
    have h' := h
    unfold Srt at h'
    rw [List.pairwise_append] at h'
    have hs : ∀ p ∈ s, p.1.toNat < k.toNat := fun p hp => h'.2.2 p hp (k, v) (List.mem_cons_self ..)
    have e : putL k v s = s ++ [(k, v)] := by
      have := putL_lt k v s [] hs
      rw [List.append_nil] at this; rw [this]; rfl
    refine ⟨⟨h'.1, by simp at hl; omega⟩, ?_⟩
    show okF _ _ (putL k v s) m
    rw [e]
    exact ih _ (by rw [List.append_assoc]; exact h) (by simp at hl ⊢; omega)
theorem copyX_tr (bx : Nat) (m : List KV) (hm : Srt m) (hl : m.length < 700) (κ : Kap) (cs : List HProp) :
    Te Tryd.prog 58 [.pointer (some ⟨bx, 0, none⟩)] κ (ixB bx m :: cs) (fun _ : Nat => True) (fun b => .pointer (some ⟨b, 0, none⟩)) (fun b => ixB b m :: ixB bx m :: cs) := by
  refine .enterM Tryd.func58 rfl rfl ?_
  refine .seq ?_
  refine .reg ?_
  refine .as ?_
  refine .go ?_
  refine .seq ?_
  refine .reg ?_
  refine .bz ?_
  refine .bx fun b7 => ?_
  refine .al fun b3 => ?_
  refine .st ?_
  refine .sat (cs' := ixB b7 [] :: pts b3 (87, [.pointer (some ⟨b7, 0, none⟩)]) :: ixB bx m :: cs) (fun w hs => ix_in none rfl (hs.pm 2 [1, 0])) ?_
  refine .go ?_
  refine .seq ?_
  refine .seq ?_
  refine .reg ?_
  refine .mv ?_
  refine .mf ?_
  refine .go ?_
  refine .block ?_
  refine .rf (p := fun _ : Unit => True) (v := .tuple #[]) (cs' := fun _ => ixB b7 m :: pts b3 (87, [.pointer (some ⟨b7, 0, none⟩)]) :: ixB bx m :: cs) (fun lp rb r h1 h2 h3 h4 h5 hf => ?_) (fun rb _ _ => ?_)
  · have hfeed : Feed Tryd.prog κ lp encKV (fun (s : List KV) _ => Srt s ∧ s.length < 700) (fun s => exB (fun _ : Unit => True) fun _ => pob lp (.loop r) :: [ixB b7 s, pts b3 (87, [.pointer (some ⟨b7, 0, none⟩)])]) (fun s x => putL x.1 x.2 s) := by
      refine feed_of (n := ⟨_, []⟩) h1 h2 (fun x => by rw [h3]; rfl) (fun _ (_ : Unit) => True) (fun s _ => [ixB b7 s, pts b3 (87, [.pointer (some ⟨b7, 0, none⟩)])]) rfl (by rw [h3]; decide) hf
        (ι2 := Nat × KV × List KV) (fun j => [(3, .pointer (some ⟨b3, 0, none⟩)), (4, .pointer (some ⟨j.1, 0, none⟩)), (5, .int .i64 j.2.1.2)]) (fun j => [ixB b7 j.2.2, pts j.1 (24, nm j.2.1.1), pts b3 (87, [.pointer (some ⟨b7, 0, none⟩)])]) (fun s _ x j => j.2.1 = x ∧ j.2.2 = s) ?_ ?_
      · intro s _ x F hok _
        rw [h3, h4]
        simp only [List.cons_append, List.nil_append]
        refine .seq ?_
        refine .reg ?_
        refine .al fun b4 => ?_
        refine .stw ?_
        refine .goR ?_
        rw [vc_agg]
        refine .reg ?_
        refine .as ?_
        exact .nil fun aa w hf hs => ⟨(b4, x, s), ⟨rfl, rfl⟩, hf.to (by repeat (first | exact trivial | refine ⟨rfl, ?_⟩)), hs.pm 4 [1, 2, 0, 3]⟩
      · intro s _ x j F hok _ hj
        obtain ⟨b4, y, s'⟩ := j
        obtain ⟨h6, h7⟩ := hj
        simp only at h6 h7
        subst h6 h7
        rw [h5]
        simp only [List.cons_append, List.nil_append]
        refine .block ?_
        refine .reg ?_
        refine .ld ?_
        refine .ldw ?_
        refine .mv ?_
        refine .pm 4 [1, 0, 2, 3] ?_
        refine .cl (putB_tr b7 s' hok.1 hok.2 y.1 y.2 κ _) ?_
        exact .nil fun aa w hf hs => ⟨(), trivial, hs.pm 4 [1, 0, 3]⟩
    have hfold := foldl_putL m [] hm
    rw [List.nil_append] at hfold
    intro w hs
    have hs2 : Sat κ w (exB (fun _ : Unit => True) (fun _ => pob lp (.loop r) :: [ixB b7 [], pts b3 (87, [.pointer (some ⟨b7, 0, none⟩)])]) :: ixB bx m :: pob rb (.deferred (some [])) :: cs) :=
      (hs.pm 5 [0, 2, 3, 4, 1]).imp fun g hg => exB_in () trivial hg
    refine (all_tr hfeed bx m (by omega) [] _ (okF_putL m [] hm (by simpa using hl)) w hs2).mono fun e w' ⟨he, hs3⟩ => ⟨(), trivial, he, ?_⟩
    rw [hfold] at hs3
    obtain ⟨g, s0, d0, hg⟩ := hs3.ex
    obtain ⟨_, _, hx⟩ := exB_out hg
    have hs4 : Sat κ w' (pob lp (.loop r) :: ixB b7 m :: pts b3 (87, [.pointer (some ⟨b7, 0, none⟩)]) :: ixB bx m :: pob rb (.deferred (some [])) :: cs) := ⟨hs3.os, hs3.tape, hs3.out, hs3.ro, g, s0, d0, hx⟩
    exact hs4.pm 5 [0, 4, 1, 2, 3]
  · show Co _ _ _ _ _ _ _
    refine .seq ?_
    refine .reg ?_
    refine .ld ?_
    refine .as ?_
    refine .go ?_
    refine .r1M fun w hs => ?_
    exact ⟨b7, trivial, rfl, hs.pm 3 [0, 2]⟩
end Go.Proofs.YtpcechnalfaajaaDoor

/- The engine in plain Lean (layer 11): accounts, transfers, rows. -/
namespace Go.Proofs.YtpcechnalfaajaaDoor
open Go Go.Proofs

/-- A number's place. -/
def posN (key : Num) : List Num → Option Nat
  | [] => none
  | k :: t => if k = key then some 0 else (posN key t).map (· + 1)
def zeroH : Hash := ⟨List.replicate 32 0, by simp⟩
def zA : Account := ⟨0, 0, 0, 0, 0, 0, 0, 0, 0, zeroH⟩
def zT : Transfer := ⟨0, 0, 0, 0, 0, 0, 0, 0, 0, 0, 0⟩
structure Eng where
  acc : List Account
  trs : List Transfer
  rws : List (List Row)
  time : Int
  now : Int
  deriving DecidableEq
namespace Eng
def empty : Eng := ⟨[], [], [], 0, 0⟩
def ids (e : Eng) : List Num := e.acc.map (·.id)
def tids (e : Eng) : List Num := e.trs.map (·.id)
def account (e : Eng) (id : Num) : Option Account := (posN id e.ids).map fun i => e.acc.getD i zA
def transfer (e : Eng) (id : Num) : Option Transfer := (posN id e.tids).map fun i => e.trs.getD i zT
def rowsOf (e : Eng) (id : Num) : Option (List Row) := (posN id e.ids).map fun i => e.rws.getD i []
/-- An account has a row more. -/
def row1 (e : Eng) (id : Num) (event : Int) (amount : Num) (i : Nat) : Eng :=
  let a := e.acc.getD i zA
  let l := e.rws.getD i [] ++ [⟨id, e.time, event, amount, a.dp, a.dq, a.cp, a.cq⟩]
  { e with acc := e.acc.set i { a with rows := l.length, root := rootN (l.map leafR) }, rws := e.rws.set i l }
def row (e : Eng) (id : Num) (event : Int) (amount : Num) (l : List Nat) : Eng := l.foldl (fun e i => e.row1 id event amount i) e
def add (e : Eng) (t : Transfer) (amount : Num) (d c : Nat) : Eng :=
  let t := { t with time := e.time + 1, tick := e.now }
  ({ e with time := e.time + 1, trs := e.trs ++ [t] }).row t.id (bclr t.flags 1) amount [d, c]
def findRow (at_ : Num) : List Row → Num
  | [] => 0
  | r :: t => if r.tr = at_ ∧ r.event ≥ 0 then r.amount else findRow at_ t
/-- The account in whose rows a transfer's amount stands. -/
def payer (e : Eng) (t : Transfer) : Num := if t.pid = 0 then t.debit else ((e.transfer t.pid).getD zT).debit
def amount (e : Eng) (id : Num) : Num := match e.transfer id with
  | none => 0
  | some t => findRow t.id ((e.rowsOf (e.payer t)).getD [])
def release (e : Eng) (p : Transfer) (held : Num) (d c : Nat) (nothing : Bool) : Eng :=
  let x := e.acc.getD d zA
  let e := { e with acc := e.acc.set d { x with dp := subN x.dp held } }
  let y := e.acc.getD c zA
  let e := { e with acc := e.acc.set c { y with cp := subN y.cp held } }
  let x := e.acc.getD d zA
  let e := if nothing = true ∧ band p.flags 64 ≠ 0 then { e with acc := e.acc.set d { x with flags := bclr x.flags 8 } } else e
  let y := e.acc.getD c zA
  if nothing = true ∧ band p.flags 128 ≠ 0 then { e with acc := e.acc.set c { y with flags := bclr y.flags 8 } } else e
def makeAccount (e : Eng) (a : Account) : Eng × Int :=
  if ruleA a ≠ 0 then (e, ruleA a) else
  match e.account a.id with
  | some old => (e, againA a old)
  | none => if e.acc.length = 32 then (e, 31) else
    ({ e with time := e.time + 1, acc := e.acc ++ [⟨a.id, a.ledger, bclr a.flags 1, 0, 0, 0, 0, e.time + 1, 0, rootN []⟩], rws := e.rws ++ [[]] }, 0)
/-- The amount of a first transfer. -/
def firstAmount (t : Transfer) (x y : Account) : Num :=
  let n := if band t.flags 48 ≠ 0 ∧ t.amount = 0 then BitVec.allOnes 128 else t.amount
  let n := if band t.flags 16 ≠ 0 then leastN [n, roomN x true] else n
  if band t.flags 32 ≠ 0 then leastN [n, roomN y false] else n
def first (e : Eng) (t : Transfer) (d c : Nat) : Eng × Int :=
  let x0 := e.acc.getD d zA
  let y0 := e.acc.getD c zA
  let n := firstAmount t x0 y0
  let pend : Bool := decide (band t.flags 2 ≠ 0)
  let x := if pend then { x0 with dp := addN [x0.dp, n] } else { x0 with dq := addN [x0.dq, n] }
  let y := if pend then { y0 with cp := addN [y0.cp, n] } else { y0 with cq := addN [y0.cq, n] }
  let ok := if pend then fitN [x0.dp, n] else fitN [x0.dq, n]
  let is := if pend then fitN [y0.cp, n] else fitN [y0.cq, n]
  if ok = false ∨ is = false ∨ fitN [x.dp, x.dq] = false ∨ fitN [y.cp, y.cq] = false then (e, 28)
  else if withinA x = false then (e, 29)
  else if withinA y = false then (e, 30)
  else
    let x := if band t.flags 64 ≠ 0 then { x with flags := bor x.flags 8 } else x
    let y := if band t.flags 128 ≠ 0 then { y with flags := bor y.flags 8 } else y
    (({ e with acc := (e.acc.set d x).set c y }).add { t with state := if pend then 1 else 0 } n d c, 0)
/-- A pending transfer is posted, or voided: is something wrong? -/
def secondBad (t p : Transfer) (held : Num) : Int :=
  if band p.flags 2 = 0 then 21
  else if p.state = 2 ∨ p.state = 3 then 22
  else if p.state = 4 then 23
  else if (t.debit ≠ 0 ∧ t.debit ≠ p.debit) ∨ (t.credit ≠ 0 ∧ t.credit ≠ p.credit) ∨ (t.ledger ≠ 0 ∧ t.ledger ≠ p.ledger) then 25
  else
    let n := if t.amount = 0 then held else t.amount
    if held.toNat < n.toNat ∨ (n.toNat < held.toNat ∧ band t.flags 8 ≠ 0) then 24 else 0
def post (e : Eng) (n : Num) (d c : Nat) : Eng :=
  let x := e.acc.getD d zA
  let e := { e with acc := e.acc.set d { x with dq := addN [x.dq, n] } }
  let y := e.acc.getD c zA
  { e with acc := e.acc.set c { y with cq := addN [y.cq, n] } }
def setState (e : Eng) (i : Nat) (s : Int) : Eng := { e with trs := e.trs.set i { e.trs.getD i zT with state := s } }
def second (e : Eng) (t : Transfer) : Eng × Int :=
  match posN t.pid e.tids with
  | none => (e, 20)
  | some i =>
    let p := e.trs.getD i zT
    let held := e.amount p.id
    if secondBad t p held ≠ 0 then (e, secondBad t p held) else
    let n := if t.amount = 0 then held else t.amount
    let d := (posN p.debit e.ids).getD 0
    let c := (posN p.credit e.ids).getD 0
    let e := (e.release p held d c (decide (band t.flags 8 ≠ 0))).setState i 3
    let e := if band t.flags 4 ≠ 0 then (e.setState i 2).post n d c else e
    (e.add { t with state := 0 } n d c, 0)
def makeTransfer (e : Eng) (t : Transfer) : Eng × Int :=
  if ruleT t ≠ 0 then (e, ruleT t) else
  match e.transfer t.id with
  | some old => (e, againT t old)
  | none =>
    if e.trs.length = 256 then (e, 31) else
    if t.pid ≠ 0 then e.second t else
    match posN t.debit e.ids with
    | none => (e, 15)
    | some d => match posN t.credit e.ids with
      | none => (e, 16)
      | some c =>
        if c = d then (e, 16)
        else if (e.acc.getD d zA).ledger ≠ t.ledger ∨ (e.acc.getD c zA).ledger ≠ t.ledger then (e, 17)
        else if band (e.acc.getD d zA).flags 8 ≠ 0 then (e, 26)
        else if band (e.acc.getD c zA).flags 8 ≠ 0 then (e, 27)
        else e.first t d c
/-- What waited too long comes to nothing. -/
def expire1 (e : Eng) (i : Nat) : Eng :=
  let p := e.trs.getD i zT
  if p.state ≠ 1 ∨ p.timeout ≤ 0 ∨ e.now - p.tick < p.timeout then e else
  let held := e.amount p.id
  let d := (posN p.debit e.ids).getD 0
  let c := (posN p.credit e.ids).getD 0
  let e := (e.release p held d c true).setState i 4
  ({ e with time := e.time + 1 }).row p.id (-1) held [d, c]
def tick (e : Eng) (now : Int) : Eng := (List.range e.trs.length).foldl expire1 { e with now := now }
/-- Events of one kind, as the batch goes over them. -/
structure Evs where
  n : Nat
  flags : Nat → Int
  do_ : Eng → Nat → Eng × Int
/-- The events of a chain till one fails. -/
def run (ev : Evs) : Nat → Nat → Eng → Eng × Option (Nat × Int)
  | 0, _, e => (e, none)
  | m + 1, i, e => if (ev.do_ e i).2 = 0 then run ev m (i + 1) (ev.do_ e i).1 else ((ev.do_ e i).1, some (i, (ev.do_ e i).2))
def results (lo m bad : Nat) (code : Int) : List (Int × Int) := (List.range m).map fun (k : Nat) => (((lo + k : Nat) : Int), if lo + k = bad then code else 1)
/-- The events from one on up to another one, that one too. -/
def chain (ev : Evs) (lo hi : Nat) (e : Eng) : Eng × List (Int × Int) :=
  let m := min (hi + 1) ev.n - lo
  match run ev m lo e with
  | (_, some (bad, code)) => (e, results lo m bad code)
  | (e', none) => if hi = ev.n then (e, results lo m (ev.n - 1) 2) else (e', [])
def chainEnd (ev : Evs) : Nat → Nat → Nat
  | 0, i => i
  | m + 1, i => if band (ev.flags i) 1 ≠ 0 then chainEnd ev m (i + 1) else i
def batch (ev : Evs) : Nat → Nat → Eng → Eng × List (Int × Int)
  | 0, _, e => (e, [])
  | f + 1, i, e =>
    if i < ev.n then
      let hi := chainEnd ev (ev.n - i) i
      let r := chain ev i hi e
      let s := batch ev f (hi + 1) r.1
      (s.1, r.2 ++ s.2)
    else (e, [])
def evA (l : List Account) : Evs := ⟨l.length, fun i => (l.getD i zA).flags, fun e i => e.makeAccount (l.getD i zA)⟩
def evT (l : List Transfer) : Evs := ⟨l.length, fun i => (l.getD i zT).flags, fun e i => e.makeTransfer (l.getD i zT)⟩
def batchA (e : Eng) (l : List Account) : Eng × List (Int × Int) := batch (evA l) l.length 0 e
def batchT (e : Eng) (l : List Transfer) : Eng × List (Int × Int) := batch (evT l) l.length 0 e
end Eng
end Go.Proofs.YtpcechnalfaajaaDoor
