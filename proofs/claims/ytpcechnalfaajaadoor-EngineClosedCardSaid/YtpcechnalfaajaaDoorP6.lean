/- Part 6 of the proof: V17, U18, V18, U19, U20, U21, U22, U23, U24, U25, V19. -/
import Derived.Test.YtpcechnalfaajaaDoorP5
import Derived.Test.YtpcechnalfaajaaDoorP4
import Derived.Test.YtpcechnalfaajaaDoorP3
/- An engine in memory. -/
namespace Go.Proofs.YtpcechnalfaajaaDoor
open Go Go.Proofs

/-- The places of numbers, as an index holds them. -/
def idxG : List KV → List Num → Nat → List KV
  | m, [], _ => m
  | m, k :: t, i => idxG (putL k (i : Int) m) t (i + 1)
def idxOf (ids : List Num) : List KV := idxG [] ids 0
theorem idxG_snoc : ∀ (ids : List Num) (m : List KV) (i : Nat) (k : Num), idxG m (ids ++ [k]) i = putL k ((i + ids.length : Nat) : Int) (idxG m ids i) := by
  intro ids
  induction ids with
  | nil => intro m i k; rfl
  | cons x t ih => intro m i k; simp only [List.cons_append, idxG, ih, List.length_cons]; congr 2; omega
theorem idxOf_snoc (ids : List Num) (k : Num) : idxOf (ids ++ [k]) = putL k (ids.length : Int) (idxOf ids) := by
  have := idxG_snoc ids [] 0 k
  rw [Nat.zero_add] at this; exact this
theorem getL_put {key k : Num} {v : Int} {m : List KV} (h : Srt m) : getL key (putL k v m) = if k = key then some v else getL key m := by
  induction m with
  | nil => simp [putL, getL]
  | cons x t ih =>
    obtain ⟨k', w⟩ := x
    unfold Srt at h
    obtain ⟨h1, h2⟩ := List.pairwise_cons.1 h
    simp only [putL]
    by_cases e : k' = k
    · subst e
      simp only [if_true, getL]
      split <;> rfl
    · rw [if_neg e]
      by_cases hlt : k.toNat < k'.toNat
      · rw [if_pos hlt]; simp only [getL]
      · rw [if_neg hlt]
        simp only [getL, ih h2]
        by_cases e1 : k' = key
        · rw [if_pos e1, if_neg (fun e2 => e (e1.trans e2.symm)), if_pos e1]
        · rw [if_neg e1, if_neg e1]
theorem posN_app (key : Num) : ∀ (a b : List Num), posN key (a ++ b) = (posN key a).or ((posN key b).map (· + a.length)) := by
  intro a b
  induction a with
  | nil => cases h : posN key b <;> simp [posN, h]
  | cons k t ih =>
    simp only [List.cons_append, posN]
    by_cases e : k = key
    · simp [e]
    · rw [if_neg e, if_neg e, ih]
      cases h1 : posN key t <;> cases h2 : posN key b <;> simp <;> omega
theorem posN_some {key : Num} : ∀ {l : List Num} {i : Nat}, posN key l = some i → ∃ h : i < l.length, l[i] = key := by
  intro l
  induction l with
  | nil => intro i h; cases h
  | cons k t ih =>
    intro i h
    simp only [posN] at h
    by_cases e : k = key
    · rw [if_pos e] at h; cases h; exact ⟨by simp, e⟩
    · rw [if_neg e] at h
      cases h1 : posN key t with
      | none => rw [h1] at h; cases h
      | some j =>
        rw [h1] at h; simp at h; subst h
        obtain ⟨h2, h3⟩ := ih h1
        exact ⟨by simpa using h2, by simpa using h3⟩
theorem posN_none {key : Num} : ∀ {l : List Num}, posN key l = none ↔ key ∉ l := by
  intro l
  induction l with
  | nil => simp [posN]
  | cons k t ih =>
    simp only [posN]
    by_cases e : k = key
    · simp [e]
    · rw [if_neg e, Option.map_eq_none_iff, ih]
      simp [Ne.symm e]
theorem idxOf_spec : ∀ (n : Nat) (ids : List Num), ids.length = n → ids.Nodup → Srt (idxOf ids) ∧ (idxOf ids).length = ids.length ∧ ∀ key, getL key (idxOf ids) = (posN key ids).map fun (i : Nat) => (i : Int) := by
  intro n
  induction n with
  | zero =>
    intro ids hl _
    have : ids = [] := List.eq_nil_of_length_eq_zero hl
    subst this
    exact ⟨List.Pairwise.nil, rfl, fun key => rfl⟩
  | succ n ih =>
    intro ids hl hn
    have hne : ids ≠ [] := fun h => by subst h; simp at hl
    obtain ⟨l, k, rfl⟩ : ∃ l k, ids = l ++ [k] := ⟨ids.dropLast, ids.getLast hne, (List.dropLast_concat_getLast hne).symm⟩
    have hnl : l.Nodup := (List.nodup_append.1 hn).1
    have hk : k ∉ l := fun h => (List.nodup_append.1 hn).2.2 k h k (by simp) rfl
    obtain ⟨h1, h2, h3⟩ := ih l (by simpa using hl) hnl
    rw [idxOf_snoc]
    refine ⟨putL_srt h1, ?_, fun key => ?_⟩
    · rw [putL_len h1, h3, posN_none.2 hk, h2]; simp
    · rw [getL_put h1, h3, posN_app]
      by_cases e : k = key
      · subst e; simp [posN_none.2 hk, posN]
      · simp [e, posN]
theorem idx_srt {ids : List Num} (h : ids.Nodup) : Srt (idxOf ids) := (idxOf_spec _ ids rfl h).1
theorem idx_len {ids : List Num} (h : ids.Nodup) : (idxOf ids).length = ids.length := (idxOf_spec _ ids rfl h).2.1
theorem idx_get {ids : List Num} (h : ids.Nodup) (key : Num) : getL key (idxOf ids) = (posN key ids).map fun (i : Nat) => (i : Int) := (idxOf_spec _ ids rfl h).2.2 key

/-- An account's list of rows. -/
def lstB (b : Nat) (rs : List Row) : HProp := exB (fun _ : LstI => True) fun i => lstC b rs i []
theorem lst_out {κ : Kap} {w : World} {b : Nat} {rs : List Row} {cs : List HProp} (h : Sat κ w (lstB b rs :: cs)) : ∃ i : LstI, True ∧ Sat κ w (lstC b rs i cs) := by
  obtain ⟨g, s0, d0, hg⟩ := h.ex
  obtain ⟨i, _, hx⟩ := exB_out hg
  exact ⟨i, trivial, h.os, h.tape, h.out, h.ro, g, s0, d0, hx⟩
theorem lst_in {κ : Kap} {w : World} {b : Nat} {rs : List Row} {cs : List HProp} (i : LstI) (h : Sat κ w (lstC b rs i cs)) : Sat κ w (lstB b rs :: cs) := h.imp fun g hg => exB_in i trivial hg
theorem raddB_tr (b : Nat) (rs : List Row) (hl : rs.length < 100000) (r : Row) (hr : -1000000000000 ≤ r.event ∧ r.event ≤ 1000000000000) (κ : Kap) (hκ : Laid κ) (cs : List HProp) :
    Tr Tryd.prog 77 [.pointer (some ⟨b, 0, none⟩), .agg (encR r).toArray] κ (lstB b rs :: cs) (.tuple #[]) (lstB b (rs ++ [r]) :: cs) := by
  intro w hs
  obtain ⟨i, _, hs⟩ := lst_out hs
  exact (radd_tr b rs hl r hr i κ hκ cs w hs).mono fun e w' ⟨i', _, h1, h2⟩ => ⟨h1, lst_in i' h2⟩
theorem rlenB_tr (b : Nat) (rs : List Row) (κ : Kap) (cs : List HProp) : Tr Tryd.prog 51 [.pointer (some ⟨b, 0, none⟩)] κ (lstB b rs :: cs) (.int .i64 rs.length) (lstB b rs :: cs) := by
  intro w hs
  obtain ⟨i, _, hs⟩ := lst_out hs
  exact (rlen_tr b rs i κ cs w hs).mono fun e w' ⟨h1, h2⟩ => ⟨h1, lst_in i h2⟩
theorem ratB_tr (b : Nat) (rs : List Row) (k : Nat) (hk : k < rs.length) (hl : rs.length < 100000) (κ : Kap) (cs : List HProp) : Tr Tryd.prog 32 [.pointer (some ⟨b, 0, none⟩), .int .i64 k] κ (lstB b rs :: cs) (.agg (encR rs[k]).toArray) (lstB b rs :: cs) := by
  intro w hs
  obtain ⟨i, _, hs⟩ := lst_out hs
  exact (rat_tr b rs k hk hl i κ cs w hs).mono fun e w' ⟨h1, h2⟩ => ⟨h1, lst_in i h2⟩
theorem rrootB_tr (b : Nat) (rs : List Row) (hl : rs.length < 100000) (κ : Kap) (hκ : Laid κ) (cs : List HProp) : Tr Tryd.prog 62 [.pointer (some ⟨b, 0, none⟩), .pointer none] κ (lstB b rs :: cs) (.agg (hcells (rootN (rs.map leafR))).toArray) (lstB b rs :: cs) := by
  intro w hs
  obtain ⟨i, _, hs⟩ := lst_out hs
  exact (rroot_tr b rs hl i κ hκ cs w hs).mono fun e w' ⟨h1, h2⟩ => ⟨h1, lst_in i h2⟩
theorem rcopyB_tr (b : Nat) (rs : List Row) (hl : rs.length < 100000) (κ : Kap) (cs : List HProp) : Te Tryd.prog 57 [.pointer (some ⟨b, 0, none⟩)] κ (lstB b rs :: cs) (fun _ : Nat => True) (fun b' => .pointer (some ⟨b', 0, none⟩)) (fun b' => lstB b' rs :: lstB b rs :: cs) := by
  intro w hs
  obtain ⟨i, _, hs⟩ := lst_out hs
  exact (rcopy_tr b rs hl i κ cs w hs).mono fun e w' ⟨⟨b', i'⟩, _, h1, h2⟩ => ⟨b', trivial, h1, by
    have h3 := lst_in (cs := lstC b rs i cs) i' h2
    have h4 : Sat κ w' (lstC b rs i (lstB b' rs :: cs)) := h3.imp fun g hg => sepL_in [_, _, _] hg
    exact (lst_in i h4).pm 2 [1, 0]⟩

/-- The lists of all accounts. -/
def rowsP : List (List Row) → List Nat → List HProp
  | r :: rs, b :: bs => lstB b r :: rowsP rs bs
  | _, _ => []
theorem rowsP_app : ∀ (a : List (List Row)) (c : List Nat) (b : List (List Row)) (d : List Nat), a.length = c.length → rowsP (a ++ b) (c ++ d) = rowsP a c ++ rowsP b d := by
  intro a
  induction a with
  | nil => intro c b d h; have : c = [] := List.eq_nil_of_length_eq_zero h.symm; subst this; rfl
  | cons t a ih =>
    intro c b d h
    cases c with
    | nil => simp at h
    | cons x c => simp only [List.cons_append, rowsP, ih c b d (by simpa using h)]
theorem rowsP_at (rs : List (List Row)) (bs : List Nat) (j : Nat) (h : j < rs.length) (h' : bs.length = rs.length) :
    rowsP rs bs = rowsP (rs.take j) (bs.take j) ++ lstB (bs[j]'(by omega)) rs[j] :: rowsP (rs.drop (j + 1)) (bs.drop (j + 1)) := by
  have e1 : rs = rs.take j ++ (rs[j] :: rs.drop (j + 1)) := by rw [← List.drop_eq_getElem_cons h, List.take_append_drop]
  have e2 : bs = bs.take j ++ (bs[j]'(by omega) :: bs.drop (j + 1)) := by rw [← List.drop_eq_getElem_cons (by omega), List.take_append_drop]
  conv => lhs; rw [e1, e2]
  rw [rowsP_app _ _ _ _ (by simp; omega)]
  rfl
structure EngI where
  pa : Option Addr
  ca : Nat
  pt : Option Addr
  ct : Nat
  pr : Option Addr
  cr : Nat
  bA : Nat
  bI : Nat
  lb : List Nat
/-- An engine's own rows. -/
abbrev engH (b : Nat) (e : Eng) (i : EngI) (cs : List HProp) : List HProp :=
  pts b (92, [.slice i.pa e.acc.length i.ca, .slice i.pt e.trs.length i.ct, .slice i.pr i.lb.length i.cr, ptrV i.bA, ptrV i.bI, .int .i64 e.time, .int .i64 e.now]) ::
  sl 46 (.slice i.pa e.acc.length i.ca) (37, e.acc.flatMap encA) :: sl 16 (.slice i.pt e.trs.length i.ct) (43, e.trs.flatMap encT) :: sl 1 (.slice i.pr i.lb.length i.cr) (72, i.lb.map ptrV) ::
  ixB i.bA (idxOf e.ids) :: ixB i.bI (idxOf e.tids) :: cs
/-- An engine, opened. -/
abbrev engO (b : Nat) (e : Eng) (i : EngI) (cs : List HProp) : List HProp := engH b e i (rowsP e.rws i.lb ++ cs)
def engB (b : Nat) (e : Eng) : HProp := exB (fun i : EngI => i.lb.length = e.rws.length) fun i => engO b e i []
theorem eng_out {κ : Kap} {w : World} {b : Nat} {e : Eng} {cs : List HProp} (h : Sat κ w (engB b e :: cs)) : ∃ i : EngI, i.lb.length = e.rws.length ∧ Sat κ w (engO b e i cs) := by
  obtain ⟨g, s0, d0, hg⟩ := h.ex
  obtain ⟨i, hi, hx⟩ := exB_out hg
  refine ⟨i, hi, h.os, h.tape, h.out, h.ro, g, s0, d0, ?_⟩
  simpa [engO, engH] using hx
theorem eng_in {κ : Kap} {w : World} {b : Nat} {e : Eng} {cs : List HProp} (i : EngI) (hi : i.lb.length = e.rws.length) (h : Sat κ w (engO b e i cs)) : Sat κ w (engB b e :: cs) :=
  h.imp fun g hg => exB_in i hi (by simpa [engO, engH] using hg)
/-- One list taken out. -/
theorem eng_list {κ : Kap} {w : World} {b : Nat} {e : Eng} {i : EngI} {cs : List HProp} {j : Nat} (hj : j < e.rws.length) (hi : i.lb.length = e.rws.length) :
    Sat κ w (engO b e i cs) ↔ Sat κ w (lstB (i.lb[j]'(by omega)) e.rws[j] :: engH b e i (rowsP (e.rws.take j) (i.lb.take j) ++ (rowsP (e.rws.drop (j + 1)) (i.lb.drop (j + 1)) ++ cs))) := by
  unfold engO
  rw [rowsP_at e.rws i.lb j hj hi, List.append_assoc, List.cons_append]
  constructor
  · exact fun h => h.imp fun g hg => sepL_out ([_, _, _, _, _, _] ++ rowsP (e.rws.take j) (i.lb.take j)) hg
  · exact fun h => h.imp fun g hg => sepL_in ([_, _, _, _, _, _] ++ rowsP (e.rws.take j) (i.lb.take j)) hg
end Go.Proofs.YtpcechnalfaajaaDoor

/- engine: New, Now, Account, Transfer, Rows. -/
namespace Go.Proofs.YtpcechnalfaajaaDoor
open Go Go.Proofs

theorem newE_tr (κ : Kap) (cs : List HProp) : Te Tryd.prog 15 [] κ cs (fun _ : Nat => True) (fun b => .pointer (some ⟨b, 0, none⟩)) (fun b => engB b Eng.empty :: cs) := by
  refine .enter Tryd.func15 rfl rfl ?_
  refine .seq ?_
  refine .reg ?_
  refine .as ?_
  refine .go ?_
  refine .seq ?_
  refine .reg ?_
  refine .bz ?_
  refine .bx fun b2 => ?_
  refine .bz ?_
  refine .bx fun b4 => ?_
  refine .bd ?_
  refine .bd ?_
  refine .bx fun b7 => ?_
  refine .as ?_
  refine .go ?_
  refine .r1 fun w hs => ?_
  refine ⟨b7, trivial, rfl, ?_⟩
  have h1 := ((hs.nilS 1 72).nilS 16 43).nilS 46 37
  have h2 : Sat κ w (ixB b4 [] :: ixB b2 [] :: pts b7 (92, [.slice none 0 0, .slice none 0 0, .slice none 0 0, ptrV b2, ptrV b4, .int .i64 0, .int .i64 0]) :: sl 46 (.slice none 0 0) (37, []) :: sl 16 (.slice none 0 0) (43, []) :: sl 1 (.slice none 0 0) (72, []) :: cs) :=
    ix_in none rfl ((ix_in (bx := b2) none rfl (h1.pm 6 [5, 4, 3, 0, 1, 2])).pm 6 [1, 0, 2, 3, 4, 5])
  exact eng_in ⟨none, 0, none, 0, none, 0, b2, b4, []⟩ rfl (h2.pm 6 [2, 3, 4, 5, 1, 0])
theorem nowE_tr (b : Nat) (e : Eng) (i : EngI) (κ : Kap) (cs : List HProp) : Tr Tryd.prog 33 [.pointer (some ⟨b, 0, none⟩)] κ (engO b e i cs) (.int .i64 e.now) (engO b e i cs) := by
  refine .enter Tryd.func33 rfl rfl ?_
  refine .seq ?_
  refine .reg ?_
  refine .as ?_
  refine .go ?_
  refine .seq ?_
  refine .reg ?_
  refine .mv ?_
  refine .nc ?_
  refine .fa ?_
  refine .ld ?_
  refine .as ?_
  refine .go ?_
  refine .r1 fun w hs => ?_
  exact ⟨rfl, hs⟩
theorem encA_zero : encA zA = [.int .u64 0, .int .u64 0, .int .i64 0, .int .i64 0, .int .u64 0, .int .u64 0, .int .u64 0, .int .u64 0, .int .u64 0, .int .u64 0, .int .u64 0, .int .u64 0, .int .i64 0, .int .i64 0] ++ bv (List.replicate 32 0) := by rfl
theorem acct_tr (b : Nat) (e : Eng) (hn : e.ids.Nodup) (hl : e.acc.length < 700) (i : EngI) (id : Num) (κ : Kap) (cs : List HProp) :
    Tr Tryd.prog 20 [.pointer (some ⟨b, 0, none⟩), .agg (nm id).toArray] κ (engO b e i cs) (.tuple #[.agg (encA ((e.account id).getD zA)).toArray, .bool (e.account id).isSome]) (engO b e i cs) := by
  refine .enter Tryd.func20 rfl rfl ?_
  refine .seq ?_
  refine .reg ?_
  refine .bx fun b3 => ?_
  refine .al fun b4 => ?_
  refine .as ?_
  refine .go ?_
  refine .seq ?_
  rw [vc_agg]
  refine .regD [(b, 0, [.slice i.pa e.acc.length i.ca, .slice i.pt e.trs.length i.ct, .slice i.pr i.lb.length i.cr, ptrV i.bA, ptrV i.bI, .int .i64 e.time, .int .i64 e.now]), (b3, 0, nm id)] [] ?_
  refine .mv 0 ?_
  refine .nc 1 ?_
  refine .fa 2 ?_
  refine .fa 3 ?_
  refine .ld 4 ?_
  refine .ldw 5 ?_
  have hil : e.ids.length = e.acc.length := by simp [Eng.ids]
  refine .pm 8 [6, 0, 1, 2, 3, 4, 5, 7] ?_
  refine .cl 6 (getB_tr i.bA (idxOf e.ids) (idx_srt hn) (by rw [idx_len hn, hil]; omega) id κ _) ?_
  rw [idx_get hn]
  refine .pm 8 [1, 2, 3, 4, 5, 6, 0, 7] ?_
  have hacc : e.account id = (posN id e.ids).map fun i => e.acc.getD i zA := rfl
  rw [hacc]
  cases hp : posN id e.ids with
  | none =>
    simp only [Option.map_none, Option.getD_none, Option.isSome_none]
    refine .mv 7 ?_
    refine .ex 8 ?_
    refine .ex 9 ?_
    refine .as 10 ?_
    refine .as 11 ?_
    refine .go ?_
    refine .seq ?_
    refine .seq ?_
    refine .reg ?_
    refine .mv ?_
    refine .nt ?_
    refine .go ?_
    refine .cond rfl (fun hc => ?_) (fun hc => by cases hc)   -- t19
    refine .seq ?_
    refine .reg ?_
    refine .bz ?_
    refine .stw ?_
    refine .as ?_
    refine .go ?_
    refine .r2 (h := ⟨inferInstance, rfl, .cw, .t⟩) fun w hs => ?_
    refine ⟨?_, hs.rows.rows⟩
    rw [encA_zero]; rfl
  | some j =>
    obtain ⟨hj, _⟩ := posN_some hp
    have hj : j < e.acc.length := by omega
    simp only [Option.map_some, Option.getD_some, Option.isSome_some]
    refine .mv 7 ?_
    refine .ex 8 ?_
    refine .ex 9 ?_
    refine .as 10 ?_
    refine .as 11 ?_
    refine .go ?_
    refine .seq ?_
    refine .seq ?_
    refine .reg ?_
    refine .mv ?_
    refine .nt ?_
    refine .go ?_
    refine .cond rfl (fun hc => by cases hc) (fun hc => ?_)   -- t19
    refine .slp (p := i.pa) (cap := i.ca) (sz := 46) (n0 := e.acc.length) (by omega) (fun bb hbb _ => ?_)
    have hg : getV true (e.acc.flatMap encA) (((j : Nat) : Int).toNat * 46) 46 = some (.agg (encA (e.acc.getD j zA)).toArray) := by
      have := flat_get encA 46 encA_len e.acc j 0 46 true (.agg (encA e.acc[j]).toArray) hj (getV_whole (encA_len _))
      simpa [List.getD, hj] using this
    refine .go ?_
    refine .seq ?_
    refine .reg ?_
    refine .mv ?_
    refine .nc ?_
    refine .fa ?_
    refine .fa ?_
    refine .ld ?_
    refine .mv ?_
    unfold engO engH
    rw [hbb]
    refine .ix ?_
    refine .lx hg ?_
    have h46 : (encA (e.acc.getD j zA)).length = 46 := encA_len _
    have h1 : one (encA (e.acc.getD j zA)) = true := encA_one _
    generalize encA (e.acc.getD j zA) = A at *
    refine .stw (h := ⟨rfl, rfl, inferInstance, inferInstance, ⟨h46, rfl⟩, h1, rfl⟩) ?_
    refine .as ?_
    refine .go ?_
    refine .r2 (h := ⟨inferInstance, rfl, .cw ⟨rfl, inferInstance, inferInstance, rfl, h46⟩, .t⟩) fun w hs => ?_
    exact ⟨rfl, hs.rows.rows⟩
theorem trans_tr (b : Nat) (e : Eng) (hn : e.tids.Nodup) (hl : e.trs.length < 700) (i : EngI) (id : Num) (κ : Kap) (cs : List HProp) :
    Tr Tryd.prog 30 [.pointer (some ⟨b, 0, none⟩), .agg (nm id).toArray] κ (engO b e i cs) (.tuple #[.agg (encT ((e.transfer id).getD zT)).toArray, .bool (e.transfer id).isSome]) (engO b e i cs) := by
  refine .enter Tryd.func30 rfl rfl ?_
  refine .seq ?_
  refine .reg ?_
  refine .bx fun b3 => ?_
  refine .al fun b4 => ?_
  refine .as ?_
  refine .go ?_
  refine .seq ?_
  rw [vc_agg]
  refine .regD [(b, 0, [.slice i.pa e.acc.length i.ca, .slice i.pt e.trs.length i.ct, .slice i.pr i.lb.length i.cr, ptrV i.bA, ptrV i.bI, .int .i64 e.time, .int .i64 e.now]), (b3, 0, nm id)] [] ?_
  refine .mv 0 ?_
  refine .nc 1 ?_
  refine .fa 2 ?_
  refine .fa 3 ?_
  refine .ld 4 ?_
  refine .ldw 5 ?_
  have hil : e.tids.length = e.trs.length := by simp [Eng.tids]
  refine .pm 8 [7, 0, 1, 2, 3, 4, 5, 6] ?_
  refine .cl 6 (getB_tr i.bI (idxOf e.tids) (idx_srt hn) (by rw [idx_len hn, hil]; omega) id κ _) ?_
  rw [idx_get hn]
  refine .pm 8 [1, 2, 3, 4, 5, 6, 7, 0] ?_
  have hacc : e.transfer id = (posN id e.tids).map fun i => e.trs.getD i zT := rfl
  rw [hacc]
  cases hp : posN id e.tids with
  | none =>
    simp only [Option.map_none, Option.getD_none, Option.isSome_none]
    refine .mv 7 ?_
    refine .ex 8 ?_
    refine .ex 9 ?_
    refine .as 10 ?_
    refine .as 11 ?_
    refine .go ?_
    refine .seq ?_
    refine .seq ?_
    refine .reg ?_
    refine .mv ?_
    refine .nt ?_
    refine .go ?_
    refine .cond rfl (fun hc => ?_) (fun hc => by cases hc)   -- t19
    refine .seq ?_
    refine .reg ?_
    refine .bz ?_
    refine .stw ?_
    refine .as ?_
    refine .go ?_
    refine .r2 (h := ⟨inferInstance, rfl, .cw, .t⟩) fun w hs => ?_
    refine ⟨?_, hs.rows.rows⟩
    rfl
  | some j =>
    obtain ⟨hj, _⟩ := posN_some hp
    have hj : j < e.trs.length := by omega
    simp only [Option.map_some, Option.getD_some, Option.isSome_some]
    refine .mv 7 ?_
    refine .ex 8 ?_
    refine .ex 9 ?_
    refine .as 10 ?_
    refine .as 11 ?_
    refine .go ?_
    refine .seq ?_
    refine .seq ?_
    refine .reg ?_
    refine .mv ?_
    refine .nt ?_
    refine .go ?_
    refine .cond rfl (fun hc => by cases hc) (fun hc => ?_)   -- t19
    refine .slp (p := i.pt) (cap := i.ct) (sz := 16) (n0 := e.trs.length) (by omega) (fun bb hbb _ => ?_)
    have hg : getV true (e.trs.flatMap encT) (((j : Nat) : Int).toNat * 16) 16 = some (.agg (encT (e.trs.getD j zT)).toArray) := by
      have := flat_get encT 16 encT_len e.trs j 0 16 true (.agg (encT e.trs[j]).toArray) hj (getV_whole (encT_len _))
      simpa [List.getD, hj] using this
    refine .go ?_
    refine .seq ?_
    refine .reg ?_
    refine .mv ?_
    refine .nc ?_
    refine .fa ?_
    refine .fa ?_
    refine .ld ?_
    refine .mv ?_
    unfold engO engH
    rw [hbb]
    refine .ix ?_
    refine .lx hg ?_
    have h46 : (encT (e.trs.getD j zT)).length = 16 := encT_len _
    have h1 : one (encT (e.trs.getD j zT)) = true := encT_one _
    generalize encT (e.trs.getD j zT) = A at *
    refine .stw (h := ⟨rfl, rfl, inferInstance, inferInstance, ⟨h46, rfl⟩, h1, rfl⟩) ?_
    refine .as ?_
    refine .go ?_
    refine .r2 (h := ⟨inferInstance, rfl, .cw ⟨rfl, inferInstance, inferInstance, rfl, h46⟩, .t⟩) fun w hs => ?_
    exact ⟨rfl, hs.rows.rows⟩
def rowsV (e : Eng) (i : EngI) (id : Num) : Value := match posN id e.ids with
  | none => .pointer none
  | some j => ptrV (i.lb.getD j 0)
theorem rowsE_tr (b : Nat) (e : Eng) (hn : e.ids.Nodup) (hl : e.acc.length < 700) (hr : e.rws.length = e.acc.length) (i : EngI) (hi : i.lb.length = e.rws.length) (id : Num) (κ : Kap) (cs : List HProp) :
    Tr Tryd.prog 31 [.pointer (some ⟨b, 0, none⟩), .agg (nm id).toArray] κ (engO b e i cs) (rowsV e i id) (engO b e i cs) := by
  refine .enter Tryd.func31 rfl rfl ?_
  refine .seq ?_
  refine .reg ?_
  refine .bx fun b3 => ?_
  refine .as ?_
  refine .go ?_
  refine .seq ?_
  rw [vc_agg]
  refine .regD [(b, 0, [.slice i.pa e.acc.length i.ca, .slice i.pt e.trs.length i.ct, .slice i.pr i.lb.length i.cr, ptrV i.bA, ptrV i.bI, .int .i64 e.time, .int .i64 e.now]), (b3, 0, nm id)] [] ?_
  refine .mv 0 ?_
  refine .nc 1 ?_
  refine .fa 2 ?_
  refine .fa 3 ?_
  refine .ld 4 ?_
  refine .ldw 5 ?_
  have hil : e.ids.length = e.acc.length := by simp [Eng.ids]
  refine .pm 7 [5, 0, 1, 2, 3, 4, 6] ?_
  refine .cl 6 (getB_tr i.bA (idxOf e.ids) (idx_srt hn) (by rw [idx_len hn, hil]; omega) id κ _) ?_
  rw [idx_get hn]
  refine .pm 7 [1, 2, 3, 4, 5, 0, 6] ?_
  unfold rowsV
  cases hp : posN id e.ids with
  | none =>
    simp only [Option.map_none, Option.getD_none, Option.isSome_none]
    refine .mv 7 ?_
    refine .ex 8 ?_
    refine .ex 9 ?_
    refine .as 10 ?_
    refine .as 11 ?_
    refine .go ?_
    refine .seq ?_
    refine .seq ?_
    refine .reg ?_
    refine .mv ?_
    refine .nt ?_
    refine .go ?_
    refine .cond rfl (fun hc => ?_) (fun hc => by cases hc)   -- t19
    refine .seq ?_
    refine .reg ?_
    refine .as ?_
    refine .go ?_
    refine .r1 fun w hs => ?_
    exact ⟨rfl, hs.rows⟩
  | some j =>
    obtain ⟨hj, _⟩ := posN_some hp
    have hj : j < i.lb.length := by omega
    simp only [Option.map_some, Option.getD_some, Option.isSome_some]
    refine .mv 7 ?_
    refine .ex 8 ?_
    refine .ex 9 ?_
    refine .as 10 ?_
    refine .as 11 ?_
    refine .go ?_
    refine .seq ?_
    refine .seq ?_
    refine .reg ?_
    refine .mv ?_
    refine .nt ?_
    refine .go ?_
    refine .cond rfl (fun hc => by cases hc) (fun hc => ?_)   -- t19
    refine .slp (p := i.pr) (cap := i.cr) (sz := 1) (n0 := i.lb.length) (by omega) (fun bb hbb _ => ?_)
    have hg : getV false (i.lb.map ptrV) (((j : Nat) : Int).toNat * 1) 1 = some (ptrV (i.lb.getD j 0)) := by
      rw [Nat.mul_one]; simp [getV, get1_eq, hj, List.getD]
    refine .go ?_
    refine .seq ?_
    refine .reg ?_
    refine .mv ?_
    refine .nc ?_
    refine .fa ?_
    refine .fa ?_
    refine .ld ?_
    refine .mv ?_
    unfold engO engH
    rw [hbb]
    refine .ix ?_
    refine .lx hg ?_
    refine .as ?_
    refine .go ?_
    refine .r1 fun w hs => ?_
    exact ⟨rfl, hs.rows⟩
end Go.Proofs.YtpcechnalfaajaaDoor

/- An engine in memory: parts of its accounts and transfers, read and written. -/
namespace Go.Proofs.YtpcechnalfaajaaDoor
open Go Go.Proofs

theorem RdAt.sub {α : Type} {enc : α → List Value} {m : Nat} (hm : ∀ x, (enc x).length = m) {b o : Nat} {cs : List HProp} {l : List α} (h : RdAt b cs o (l.flatMap enc)) (j : Nat) (hj : j < l.length) : RdAt b cs (o + j * m) (enc l[j]) := by
  have h1 := h.drop (j * m) (by rw [flat_len enc m hm]; exact Nat.mul_le_mul_right m (by omega))
  rw [← flat_drop enc m hm, List.drop_eq_getElem_cons hj, List.flatMap_cons] at h1
  have h2 := h1.take m
  rw [List.take_append_of_le_length (by rw [hm]; omega), List.take_of_length_le (by rw [hm]; omega)] at h2
  exact h2
theorem putN_app {l vs : List Value} (pre : List Value) (h : l.length = vs.length) : putN (pre ++ l) pre.length vs = some (pre ++ vs) := by
  induction vs generalizing pre l with
  | nil => have : l = [] := List.eq_nil_of_length_eq_zero (by simpa using h); subst this; simp [putN]
  | cons v vs ih =>
    cases l with
    | nil => simp at h
    | cons x t =>
      have hp : ∀ (pre : List Value), put1 (pre ++ x :: t) pre.length v = some (pre ++ v :: t) := by
        intro pre; induction pre with
        | nil => rfl
        | cons y pre ih => simp [put1, ih]
      simp only [putN, hp]
      have := ih (pre ++ [v]) (l := t) (by simpa using h)
      simpa using this
theorem put1_shift {l r : List Value} {k : Nat} {v : Value} (h : put1 l k v = some r) : ∀ (pre sp : List Value), put1 (pre ++ (l ++ sp)) (pre.length + k) v = some (pre ++ (r ++ sp)) := by
  intro pre sp
  induction pre with
  | nil =>
    simp only [List.nil_append, List.length_nil, Nat.zero_add]
    induction l generalizing k r with
    | nil => cases k <;> cases h
    | cons x t ih =>
      cases k with
      | zero => simp only [put1] at h; cases h; rfl
      | succ k =>
        simp only [put1] at h
        cases h1 : put1 t k v with
        | none => rw [h1] at h; cases h
        | some r' => rw [h1] at h; cases h; simp only [List.cons_append, put1, ih h1]
  | cons y pre ih =>
    rw [List.length_cons, show pre.length + 1 + k = (pre.length + k) + 1 by omega]
    simp only [List.cons_append, put1, ih]
theorem putN_shift : ∀ {vs l r : List Value} {k : Nat}, putN l k vs = some r → ∀ (pre sp : List Value), putN (pre ++ (l ++ sp)) (pre.length + k) vs = some (pre ++ (r ++ sp)) := by
  intro vs
  induction vs with
  | nil => intro l r k h pre sp; simp only [putN] at h ⊢; cases h; rfl
  | cons v vs ih =>
    intro l r k h pre sp
    simp only [putN] at h ⊢
    cases h1 : put1 l k v with
    | none => rw [h1] at h; cases h
    | some r' =>
      rw [h1] at h
      rw [put1_shift h1 pre sp]
      exact ih h pre sp
theorem flat_put {α : Type} {enc : α → List Value} {m : Nat} (hm : ∀ x, (enc x).length = m) {l : List α} {j k : Nat} (hj : j < l.length) {vs : List Value} {a : α} (h : putN (enc l[j]) k vs = some (enc a)) : putN (l.flatMap enc) (j * m + k) vs = some ((l.set j a).flatMap enc) := by
  have e : l = l.take j ++ (l[j] :: l.drop (j + 1)) := by rw [← List.drop_eq_getElem_cons hj, List.take_append_drop]
  have e2 : l.set j a = l.take j ++ (a :: l.drop (j + 1)) := by
    rw [List.set_eq_take_append_cons_drop, if_pos hj]
  have e3 : j * m = ((l.take j).flatMap enc).length := by rw [flat_len enc m hm, List.length_take]; congr 1; omega
  rw [e2]
  conv => lhs; rw [e]
  rw [List.flatMap_append, List.flatMap_cons, List.flatMap_append, List.flatMap_cons, e3]
  exact putN_shift h _ _
theorem putA_root (a : Account) (h : Hash) : putN (encA a) 14 (hcells h) = some (encA { a with root := h }) :=
  putN_app [.int .u64 ((a.id.toNat / 18446744073709551616 : Nat) : Int), .int .u64 ((a.id.toNat % 18446744073709551616 : Nat) : Int), .int .i64 a.ledger, .int .i64 a.flags,
    .int .u64 ((a.dp.toNat / 18446744073709551616 : Nat) : Int), .int .u64 ((a.dp.toNat % 18446744073709551616 : Nat) : Int), .int .u64 ((a.dq.toNat / 18446744073709551616 : Nat) : Int), .int .u64 ((a.dq.toNat % 18446744073709551616 : Nat) : Int),
    .int .u64 ((a.cp.toNat / 18446744073709551616 : Nat) : Int), .int .u64 ((a.cp.toNat % 18446744073709551616 : Nat) : Int), .int .u64 ((a.cq.toNat / 18446744073709551616 : Nat) : Int), .int .u64 ((a.cq.toNat % 18446744073709551616 : Nat) : Int),
    .int .i64 a.time, .int .i64 a.rows] (show (hcells a.root).length = (hcells h).length by rw [hcells_len, hcells_len])
theorem getD_at {α : Type} {l : List α} {j : Nat} {d : α} (h : j < l.length) : l.getD j d = l[j] := by simp [List.getD, h]
theorem ids_set {e : Eng} {j : Nat} {a : Account} (h : a.id = (e.acc.getD j zA).id) : (e.acc.set j a).map (·.id) = e.acc.map (·.id) := by
  rw [List.map_set]
  by_cases hj : j < e.acc.length
  · rw [getD_at hj] at h
    apply List.ext_getElem?
    intro k
    rw [List.getElem?_set]
    split
    · rename_i h1; subst h1; simp [hj, h]
    · rfl
  · rw [List.set_eq_of_length_le (by simp; omega)]
theorem tids_set {l : List Transfer} {j : Nat} {a : Transfer} (h : a.id = (l.getD j zT).id) : (l.set j a).map (·.id) = l.map (·.id) := by
  rw [List.map_set]
  by_cases hj : j < l.length
  · rw [getD_at hj] at h
    apply List.ext_getElem?
    intro k
    rw [List.getElem?_set]
    split
    · rename_i h1; subst h1; simp [hj, h]
    · rfl
  · rw [List.set_eq_of_length_le (by simp; omega)]
namespace Eng
@[simp] theorem row1_ids (e : Eng) (id : Num) (ev : Int) (n : Num) (i : Nat) : (e.row1 id ev n i).ids = e.ids := ids_set (e := e) rfl
@[simp] theorem row1_tids (e : Eng) (id : Num) (ev : Int) (n : Num) (i : Nat) : (e.row1 id ev n i).tids = e.tids := rfl
@[simp] theorem row1_trs (e : Eng) (id : Num) (ev : Int) (n : Num) (i : Nat) : (e.row1 id ev n i).trs = e.trs := rfl
@[simp] theorem row1_time (e : Eng) (id : Num) (ev : Int) (n : Num) (i : Nat) : (e.row1 id ev n i).time = e.time := rfl
@[simp] theorem row1_now (e : Eng) (id : Num) (ev : Int) (n : Num) (i : Nat) : (e.row1 id ev n i).now = e.now := rfl
@[simp] theorem row1_acc_len (e : Eng) (id : Num) (ev : Int) (n : Num) (i : Nat) : (e.row1 id ev n i).acc.length = e.acc.length := by simp [row1]
@[simp] theorem row1_rws_len (e : Eng) (id : Num) (ev : Int) (n : Num) (i : Nat) : (e.row1 id ev n i).rws.length = e.rws.length := by simp [row1]
end Eng
theorem eng_listH {κ : Kap} {g : Hp} {b : Nat} {e : Eng} {i : EngI} {cs : List HProp} {j : Nat} (hj : j < e.rws.length) (hi : i.lb.length = e.rws.length) :
    sepL κ (engO b e i cs) g ↔ sepL κ (lstB (i.lb[j]'(by omega)) e.rws[j] :: engH b e i (rowsP (e.rws.take j) (i.lb.take j) ++ (rowsP (e.rws.drop (j + 1)) (i.lb.drop (j + 1)) ++ cs))) g := by
  unfold engO
  rw [rowsP_at e.rws i.lb j hj hi, List.append_assoc, List.cons_append]
  exact ⟨fun h => sepL_out ([_, _, _, _, _, _] ++ rowsP (e.rws.take j) (i.lb.take j)) h, fun h => sepL_in ([_, _, _, _, _, _] ++ rowsP (e.rws.take j) (i.lb.take j)) h⟩
/-- One list taken out, with rows ahead. -/
theorem eng_listF {κ : Kap} {w : World} {b : Nat} {e : Eng} {i : EngI} {cs : List HProp} {j : Nat} (F : List HProp) (hj : j < e.rws.length) (hi : i.lb.length = e.rws.length) :
    Sat κ w (F ++ engO b e i cs) ↔ Sat κ w (lstB (i.lb[j]'(by omega)) e.rws[j] :: (F ++ engH b e i (rowsP (e.rws.take j) (i.lb.take j) ++ (rowsP (e.rws.drop (j + 1)) (i.lb.drop (j + 1)) ++ cs)))) :=
  ⟨fun h => h.imp fun _ hg => sepL_out F (sepL_tails (fun _ hg => (eng_listH hj hi).1 hg) F hg), fun h => h.imp fun _ hg => sepL_tails (fun _ hg => (eng_listH hj hi).2 hg) F (sepL_in F hg)⟩
/-- Rows ahead of an engine's, or behind. -/
theorem eng_back {κ : Kap} {g : Hp} {b : Nat} {e : Eng} {i : EngI} {cs : List HProp} (F : List HProp) : sepL κ (F ++ engO b e i cs) g ↔ sepL κ (engO b e i (F ++ cs)) g := by
  constructor
  · intro h
    exact sepL_tails (F := [_, _, _, _, _, _]) (fun g h => sepL_swapl F _ h) (sepL_swapl F [_, _, _, _, _, _] h)
  · intro h
    have h1 := sepL_tails (F := [_, _, _, _, _, _]) (fun g h => sepL_swapl (rowsP e.rws i.lb) F h) h
    exact sepL_swapl [_, _, _, _, _, _] F h1
theorem Tr.ef {P : Program} {f : FuncId} {args : List Value} {κ : Kap} {b b' : Nat} {e e' : Eng} {i i' : EngI} {cs : List HProp} {v : Value} (F : List HProp) (h : Tr P f args κ (engO b e i (F ++ cs)) v (engO b' e' i' (F ++ cs))) : Tr P f args κ (F ++ engO b e i cs) v (F ++ engO b' e' i' cs) :=
  fun w hs => (h w (hs.imp fun _ hg => (eng_back F).1 hg)).mono fun _ _ ⟨h1, h2⟩ => ⟨h1, h2.imp fun _ hg => (eng_back F).2 hg⟩
theorem Tr.ef1 {P : Program} {f : FuncId} {args : List Value} {κ : Kap} {b b' : Nat} {e e' : Eng} {i i' : EngI} {cs : List HProp} {v : Value} {x : HProp} (h : Tr P f args κ (engO b e i (x :: cs)) v (engO b' e' i' (x :: cs))) : Tr P f args κ (x :: engO b e i cs) v (x :: engO b' e' i' cs) := Tr.ef [x] h
theorem Tr.ef2 {P : Program} {f : FuncId} {args : List Value} {κ : Kap} {b b' : Nat} {e e' : Eng} {i i' : EngI} {cs : List HProp} {v : Value} {x y : HProp} (h : Tr P f args κ (engO b e i (x :: y :: cs)) v (engO b' e' i' (x :: y :: cs))) : Tr P f args κ (x :: y :: engO b e i cs) v (x :: y :: engO b' e' i' cs) := Tr.ef [x, y] h
theorem Tr.ef3 {P : Program} {f : FuncId} {args : List Value} {κ : Kap} {b b' : Nat} {e e' : Eng} {i i' : EngI} {cs : List HProp} {v : Value} {x y z : HProp} (h : Tr P f args κ (engO b e i (x :: y :: z :: cs)) v (engO b' e' i' (x :: y :: z :: cs))) : Tr P f args κ (x :: y :: z :: engO b e i cs) v (x :: y :: z :: engO b' e' i' cs) := Tr.ef [x, y, z] h
theorem Tr.ef5 {P : Program} {f : FuncId} {args : List Value} {κ : Kap} {b b' : Nat} {e e' : Eng} {i i' : EngI} {cs : List HProp} {v : Value} {x y z u t : HProp} (h : Tr P f args κ (engO b e i (x :: y :: z :: u :: t :: cs)) v (engO b' e' i' (x :: y :: z :: u :: t :: cs))) : Tr P f args κ (x :: y :: z :: u :: t :: engO b e i cs) v (x :: y :: z :: u :: t :: engO b' e' i' cs) := Tr.ef [x, y, z, u, t] h
end Go.Proofs.YtpcechnalfaajaaDoor

/- engine: row. -/
namespace Go.Proofs.YtpcechnalfaajaaDoor
open Go Go.Proofs

structure RowOk (e : Eng) : Prop where
  la : e.acc.length < 700
  lr : e.rws.length = e.acc.length
  lw : ∀ l ∈ e.rws, l.length < 90000
theorem RowOk.row1 {e : Eng} (h : RowOk e) (hlt : ∀ l ∈ e.rws, l.length + 1 < 90000) (id : Num) (ev : Int) (n : Num) (j : Nat) : RowOk (e.row1 id ev n j) where
  la := by simpa using h.la
  lr := by simpa using h.lr
  lw := by
    intro l hl
    rcases List.mem_or_eq_of_mem_set hl with hl | rfl
    · exact h.lw l hl
    · rw [List.length_append]
      rcases Nat.lt_or_ge j e.rws.length with hj | hj
      · rw [getD_at hj]; have := hlt _ (List.getElem_mem hj); simpa using this
      · simp [List.getD, hj]
theorem erow_tr (b : Nat) (id : Num) (ev : Int) (hev : -1000000000000 ≤ ev ∧ ev ≤ 1000000000000) (n : Num) (ls : List Nat) (hls : ls.length < 1000) (κ : Kap) (hκ : Laid κ) (i : EngI) (bl : Nat) (cs : List HProp) (e : Eng) (hi : i.lb.length = e.rws.length)
    (hok : ∀ k ≤ ls.length, RowOk (e.row id ev n (ls.take k))) (hin : ∀ j ∈ ls, j < e.acc.length) :
    Tr Tryd.prog 67 [.pointer (some ⟨b, 0, none⟩), .agg (nm id).toArray, .int .i64 ev, .agg (nm n).toArray, .slice (some ⟨bl, 0, none⟩) ls.length ls.length] κ (pts bl (3, cells .i64 (ls.map fun (k : Nat) => (k : Int))) :: engO b e i cs) (.tuple #[])
      (pts bl (3, cells .i64 (ls.map fun (k : Nat) => (k : Int))) :: engO b (e.row id ev n ls) i cs) := by
  refine .enter Tryd.func67 rfl rfl ?_
  refine .seq ?_
  refine .reg ?_
  refine .bx fun b6 => ?_
  refine .bx fun b8 => ?_
  refine .go ?_
  refine .seq ?_
  refine .reg ?_
  refine .mv ?_
  refine .ln ?_
  refine .mv ?_
  refine .go ?_
  refine .block ?_
  rw [vc_agg, vc_agg]
  have hlens : ∀ k, (e.row id ev n (ls.take k)).acc.length = e.acc.length ∧ (e.row id ev n (ls.take k)).rws.length = e.rws.length := by
    intro k
    generalize ls.take k = l
    have : ∀ (l : List Nat) (e : Eng), (e.row id ev n l).acc.length = e.acc.length ∧ (e.row id ev n l).rws.length = e.rws.length := by
      intro l
      induction l with
      | nil => intro e; exact ⟨rfl, rfl⟩
      | cons x l ih =>
        intro e
        have := ih (e.row1 id ev n x)
        rw [Eng.row1_acc_len, Eng.row1_rws_len] at this
        exact this
    exact this l e
  refine .lp (fun k : Nat => [(0, .pointer (some ⟨b, 0, none⟩)), (2, .int .i64 ev), (6, .pointer (some ⟨b6, 0, none⟩)), (8, .pointer (some ⟨b8, 0, none⟩)), (13, .slice (some ⟨bl, 0, none⟩) ls.length ls.length), (14, .int .i64 ls.length), (15, .int .i64 k)])
    (fun k => pts b8 (24, nm n) :: pts b6 (24, nm id) :: pts bl (3, cells .i64 (ls.map fun (k : Nat) => (k : Int))) :: engO b (e.row id ev n (ls.take k)) i cs) (fun k => k ≤ ls.length) (fun k => ls.length - k) 0 (by omega) (by repeat (first | exact trivial | refine ⟨rfl, ?_⟩)) rfl fun k hk => ?_
  refine .seq ?_
  refine .reg ?_
  refine .lt ?_
  refine .go ?_
  refine .seq ?_
  refine .cond rfl (fun hc => ?_) (fun hc => ?_)   -- t16
  · have hlt : k < ls.length := by have : (k : Int) < ls.length := of_decide_eq_true hc; omega
    refine .go ?_
    have hok1 := hok k hk
    have hsucc : e.row id ev n (ls.take (k + 1)) = (e.row id ev n (ls.take k)).row1 id ev n ls[k] := by
      unfold Eng.row
      rw [List.take_succ_eq_append_getElem hlt, List.foldl_append]; rfl
    have hj := hin _ (List.getElem_mem hlt)
    have hla := (hlens k).1
    have hlr := (hlens k).2
    have hgi : getV false (cells .i64 (ls.map fun (k : Nat) => (k : Int))) (((k : Nat) : Int).toNat * 1) 1 = some (.int .i64 (ls[k] : Int)) := by
      rw [Nat.mul_one]
      have := cells_get .i64 (ls.map fun (k : Nat) => (k : Int)) k (by simpa using hlt)
      simpa [List.getD, hlt] using this
    generalize e.row id ev n (ls.take k) = e1 at *
    generalize ls[k] = j at *
    have hi1 : i.lb.length = e1.rws.length := by omega
    have hja : j < e1.acc.length := by omega
    have hj1 : j < e1.rws.length := by rw [hok1.lr]; exact hja
    have hjb : j < i.lb.length := by omega
    refine .sat (fun w hs => (eng_listF [_, _, _] hj1 hi1).1 hs) ?_
    simp only [List.cons_append, List.nil_append]
    refine .slp (p := i.pa) (cap := i.ca) (sz := 46) (n0 := e1.acc.length) (by omega) (fun ba hba _ => ?_)
    refine .slp (p := i.pr) (cap := i.cr) (sz := 1) (n0 := i.lb.length) (by omega) (fun bp hbp _ => ?_)
    refine .seq ?_
    refine .block ?_
    refine .seq ?_
    refine .reg ?_
    refine .ix ?_
    refine .lx hgi ?_
    refine .as ?_
    refine .go ?_
    refine .seq ?_
    refine .reg ?_
    refine .mv ?_
    refine .nc ?_
    refine .fa ?_
    refine .fa ?_
    refine .ld ?_
    refine .mv ?_
    unfold engH
    rw [hba, hbp]
    refine .ix ?_
    refine .as ?_
    refine .go ?_
    refine .seq ?_
    have hA : ∀ (cs : List HProp) [RdAt ba cs 0 (e1.acc.flatMap encA)], RdAt ba cs (0 + ((j : Nat) : Int).toNat * 46) (encA e1.acc[j]) := fun cs h => h.sub encA_len j hja
    have hgb : getV false (i.lb.map ptrV) (((j : Nat) : Int).toNat * 1) 1 = some (ptrV i.lb[j]) := by
      rw [Nat.mul_one]; simp [getV, get1_eq, hjb]
    generalize hae : e1.acc[j] = a at *
    refine .regD [(b, 0, [.slice (some ⟨ba, 0, none⟩) e1.acc.length i.ca, .slice i.pt e1.trs.length i.ct, .slice (some ⟨bp, 0, none⟩) i.lb.length i.cr, ptrV i.bA, ptrV i.bI, .int .i64 e1.time, .int .i64 e1.now]), (bp, 0, i.lb.map ptrV), (b6, 0, nm id), (b8, 0, nm n), (ba, 0 + ((j : Nat) : Int).toNat * 46, encA a)] [] ?_
    refine .mv 0 ?_
    refine .nc 1 ?_
    refine .fa 2 ?_
    refine .fa 3 ?_
    refine .ld 4 ?_
    refine .mv 5 ?_
    refine .ix 6 ?_
    refine .lx 7 hgb ?_
    refine .ldw 8 ?_
    refine .mv 9 ?_
    refine .nc 10 ?_
    refine .fa 11 ?_
    refine .ld 12 ?_
    refine .mv 13 ?_
    refine .ldw 14 ?_
    refine .mv 15 ?_
    refine .nc 16 ?_
    refine .fa 17 ?_
    refine .lx 18 (show getV true (encA a) 4 2 = some (.agg (nm a.dp).toArray) from rfl) ?_
    refine .mv 19 ?_
    refine .nc 20 ?_
    refine .fa 21 ?_
    refine .lx 22 (show getV true (encA a) 6 2 = some (.agg (nm a.dq).toArray) from rfl) ?_
    refine .mv 23 ?_
    refine .nc 24 ?_
    refine .fa 25 ?_
    refine .lx 26 (show getV true (encA a) 8 2 = some (.agg (nm a.cp).toArray) from rfl) ?_
    refine .mv 27 ?_
    refine .nc 28 ?_
    refine .fa 29 ?_
    refine .lx 30 (show getV true (encA a) 10 2 = some (.agg (nm a.cq).toArray) from rfl) ?_
    refine .bd 31 ?_
    have hrl : (e1.rws[j]).length < 90000 := hok1.lw _ (List.getElem_mem hj1)
    refine .cl 32 (raddB_tr i.lb[j] e1.rws[j] (by omega) ⟨id, e1.time, ev, n, a.dp, a.dq, a.cp, a.cq⟩ hev κ hκ _) ?_
    generalize hl : e1.rws[j] ++ [(⟨id, e1.time, ev, n, a.dp, a.dq, a.cp, a.cq⟩ : Row)] = l at *
    have hll : l.length < 100000 := by rw [← hl]; simp; omega
    refine .go ?_
    refine .regD [(b, 0, [.slice (some ⟨ba, 0, none⟩) e1.acc.length i.ca, .slice i.pt e1.trs.length i.ct, .slice (some ⟨bp, 0, none⟩) i.lb.length i.cr, ptrV i.bA, ptrV i.bI, .int .i64 e1.time, .int .i64 e1.now]), (bp, 0, i.lb.map ptrV)] [22, 25] ?_
    refine .mv 0 ?_
    refine .mv 1 ?_
    refine .mv 2 ?_
    refine .nc 3 ?_
    refine .fa 4 ?_
    refine .fa 5 ?_
    refine .ld 6 ?_
    refine .mv 7 ?_
    refine .ix 8 ?_
    refine .lx 9 hgb ?_
    refine .mv 11 ?_
    refine .nc 12 ?_
    refine .fa 13 ?_
    refine .fa 14 ?_
    refine .ld 15 ?_
    refine .mv 16 ?_
    refine .ix 17 ?_
    refine .lx 18 hgb ?_
    refine .cl 10 (rlenB_tr i.lb[j] l κ _) ?_
    refine .cl 19 (rrootB_tr i.lb[j] l hll κ hκ _) ?_
    have h32 : (hcells (rootN (l.map leafR))).length = 32 := hcells_len _
    have h1 : one (hcells (rootN (l.map leafR))) = true := hcells_one _
    have hp1 : putN (e1.acc.flatMap encA) (0 + ((j : Nat) : Int).toNat * 46 + 13) [.int .i64 l.length] = some ((e1.acc.set j { a with rows := l.length }).flatMap encA) := by
      rw [Nat.zero_add]
      exact flat_put (j := j) encA_len hja (by rw [hae]; rfl)
    have hp2 : putN ((e1.acc.set j { a with rows := l.length }).flatMap encA) (0 + ((j : Nat) : Int).toNat * 46 + 14) (hcells (rootN (l.map leafR))) = some (((e1.acc.set j { a with rows := l.length }).set j { a with rows := l.length, root := rootN (l.map leafR) }).flatMap encA) := by
      rw [Nat.zero_add]
      exact flat_put (j := j) encA_len (by simpa using hja) (by rw [List.getElem_set_self]; exact putA_root _ _)
    generalize hcells (rootN (l.map leafR)) = H at *
    refine .nc 20 ?_
    refine .fa 21 ?_
    refine .sx 22 hp1 ?_
    refine .nc 23 ?_
    refine .fa 24 ?_
    refine .sx 25 (v := .agg H.toArray) hp2 ?_ rfl ⟨rfl, rfl, inferInstance, inferInstance, ⟨h32, rfl⟩, h1⟩
    refine .go ?_
    refine .reg ?_
    refine .ad ?_
    refine .mv ?_
    refine .nil fun aa w hf hs => ⟨k + 1, by omega, by omega, hf.to (by repeat (first | exact trivial | refine ⟨rfl, ?_⟩)), ?_⟩
    rw [hsucc]
    have he : e1.row1 id ev n j = { e1 with acc := e1.acc.set j { a with rows := l.length, root := rootN (l.map leafR) }, rws := e1.rws.set j l } := by
      unfold Eng.row1
      rw [getD_at hja, getD_at hj1, hae, ← hl]
    have hids : (e1.row1 id ev n j).ids = e1.ids := Eng.row1_ids ..
    rw [he] at hids ⊢
    refine (eng_listF [_, _, _] (by simpa using hj1) (by simpa using hi1)).2 ?_
    simp only [List.getElem_set_self, List.take_set_of_le (Nat.le_refl j), List.drop_set_of_lt (Nat.lt_succ_self j), List.length_set]
    unfold engH
    rw [hids]
    simp only [List.length_set]
    rw [← hba, ← hbp, List.set_set] at hs
    exact hs
  · have hkl : k = ls.length := by
      have : ¬ (k : Int) < ls.length := of_decide_eq_false hc
      omega
    subst hkl
    refine .x0 fun w hs => ?_
    rw [List.take_length] at hs
    exact ⟨rfl, hs.rows.rows⟩
end Go.Proofs.YtpcechnalfaajaaDoor

/- engine: add. -/
namespace Go.Proofs.YtpcechnalfaajaaDoor
open Go Go.Proofs

theorem RowOk.two {e : Eng} (h : RowOk e) (hlt : ∀ l ∈ e.rws, l.length + 2 < 90000) (id : Num) (ev : Int) (n : Num) (d c : Nat) : ∀ k ≤ [d, c].length, RowOk (e.row id ev n ([d, c].take k)) := by
  intro k hk
  have h1 := h.row1 (fun l hl => by have := hlt l hl; omega) id ev n d
  have hlt1 : ∀ l ∈ (e.row1 id ev n d).rws, l.length + 1 < 90000 := by
    intro l hl
    rcases List.mem_or_eq_of_mem_set hl with hl | rfl
    · have := hlt l hl; omega
    · rw [List.length_append]
      rcases Nat.lt_or_ge d e.rws.length with hj | hj
      · rw [getD_at hj]; have := hlt _ (List.getElem_mem hj); simp; omega
      · simp [List.getD, hj]
  match k, hk with
  | 0, _ => exact h
  | 1, _ => exact h1
  | 2, _ => exact h1.row1 hlt1 id ev n c
theorem putT_field {t : Transfer} {k : Nat} {v : Value} {t' : Transfer} (h : putN (encT t) k [v] = some (encT t')) : putN (encT t) k [v] = some (encT t') := h
theorem eadd_tr (b : Nat) (e : Eng) (i : EngI) (hi : i.lb.length = e.rws.length) (t : Transfer) (n : Num) (d c : Nat) (hd : d < e.acc.length) (hc : c < e.acc.length) (hr : RowOk e) (hlt : ∀ l ∈ e.rws, l.length + 2 < 90000) (hn : e.tids.Nodup) (htl : e.trs.length < 600)
    (htm : -1000000000000 ≤ e.time ∧ e.time ≤ 1000000000000) (hev : -1000000000000 ≤ bclr t.flags 1 ∧ bclr t.flags 1 ≤ 1000000000000) (κ : Kap) (hκ : Laid κ) (cs : List HProp) :
    Te Tryd.prog 75 [.pointer (some ⟨b, 0, none⟩), .agg (encT t).toArray, .agg (nm n).toArray, .int .i64 d, .int .i64 c] κ (engO b e i cs) (fun i' : EngI => i'.lb.length = e.rws.length) (fun _ => .tuple #[]) (fun i' => engO b (e.add t n d c) i' cs) := by
  refine .enter Tryd.func75 rfl rfl ?_
  refine .seq ?_
  refine .reg ?_
  refine .bx fun b6 => ?_
  refine .bx fun b7 => ?_
  refine .go ?_
  refine .seq ?_
  refine .reg ?_
  refine .mv ?_
  refine .nc ?_
  refine .fa ?_
  refine .ld ?_
  refine .ad ?_
  refine .nc ?_
  refine .fa ?_
  refine .st ?_
  refine .go ?_
  refine .seq ?_
  rw [vc_agg, vc_agg]
  refine .regD [(b, 0, [.slice i.pa e.acc.length i.ca, .slice i.pt e.trs.length i.ct, .slice i.pr i.lb.length i.cr, ptrV i.bA, ptrV i.bI, .int .i64 (e.time + 1), .int .i64 e.now])] [] ?_
  refine .mv 0 ?_
  refine .nc 1 ?_
  refine .fa 2 ?_
  refine .ld 3 ?_
  refine .mv 4 ?_
  refine .nc 5 ?_
  refine .fa 6 ?_
  refine .ld 7 ?_
  refine .fa 8 ?_
  refine .sx 9 (r' := encT { t with time := e.time + 1 }) rfl ?_
  refine .fa 10 ?_
  refine .sx 11 (r' := encT { t with time := e.time + 1, tick := e.now }) rfl ?_
  refine .go ?_
  refine .seq ?_
  generalize ht : ({ t with time := e.time + 1, tick := e.now } : Transfer) = t1 at *
  have hid : t1.id = t.id := by rw [← ht]
  have hfl : t1.flags = t.flags := by rw [← ht]
  refine .regD [(b, 0, [.slice i.pa e.acc.length i.ca, .slice i.pt e.trs.length i.ct, .slice i.pr i.lb.length i.cr, ptrV i.bA, ptrV i.bI, .int .i64 (e.time + 1), .int .i64 e.now]), (b6, 0, encT t1)] [] ?_
  refine .mv 0 ?_
  refine .nc 1 ?_
  refine .fa 2 ?_
  refine .fa 3 ?_
  refine .ld 4 ?_
  refine .fa 5 ?_
  refine .ld 6 (v := .agg (nm t1.id).toArray) ?_
  refine .mv 7 ?_
  refine .nc 8 ?_
  refine .fa 9 ?_
  refine .fa 10 ?_
  refine .ld 11 ?_
  refine .ln 12 ?_
  have hil : e.tids.length = e.trs.length := by simp [Eng.tids]
  refine .pm 8 [7, 0, 1, 2, 3, 4, 5, 6] ?_
  refine .cl 13 (putB_tr i.bI (idxOf e.tids) (idx_srt hn) (by rw [idx_len hn, hil]; omega) t1.id (e.trs.length : Int) κ _) ?_
  rw [← hil, ← idxOf_snoc, hil]
  refine .pm 8 [1, 2, 3, 4, 5, 6, 7, 0] ?_
  refine .go ?_
  refine .seq ?_
  refine .regD [(b, 0, [.slice i.pa e.acc.length i.ca, .slice i.pt e.trs.length i.ct, .slice i.pr i.lb.length i.cr, ptrV i.bA, ptrV i.bI, .int .i64 (e.time + 1), .int .i64 e.now]), (b6, 0, encT t1)] [12] ?_
  refine .mv 0 ?_
  refine .mv 1 ?_
  refine .nc 2 ?_
  refine .fa 3 ?_
  refine .fa 4 ?_
  refine .ld 5 ?_
  refine .ldw 6 ?_
  refine .bs1 (v := .agg (encT t1).toArray) (m := 16) 7 (fun b48 => ?_) rfl
  rw [vc_agg]
  refine .ap (src := encT t1) (k := 1) (m := 16) 8 (.inr ⟨b48, 0, rfl, .ofRd (h := .head)⟩) (fun p49 c49 => ?_) rfl rfl
  refine .nc 9 ?_
  refine .fa 10 ?_
  refine .fa 11 ?_
  refine .st 12 ?_
  refine .go ?_
  have hlr : (e.trs ++ [t1]).length = e.trs.length + 1 := by simp
  have hft : (e.trs ++ [t1]).flatMap encT = e.trs.flatMap encT ++ encT t1 := by simp
  have htt : e.tids ++ [t1.id] = (e.trs ++ [t1]).map (·.id) := by simp [Eng.tids]
  rw [← hlr, ← hft, htt]
  refine .reg ?_
  refine .mv ?_
  refine .fa ?_
  refine .ld (v := .agg (nm t1.id).toArray) ?_
  refine .fa ?_
  refine .ld (v := .int .i64 t1.flags) ?_
  refine .ano ?_
  refine .ldw ?_
  refine .mv ?_
  refine .mv ?_
  refine .bs fun b62 => ?_
  rw [hid, hfl]
  generalize he1 : ({ e with time := e.time + 1, trs := e.trs ++ [t1] } : Eng) = e1
  have hr1 : RowOk e1 := by rw [← he1]; exact ⟨hr.la, hr.lr, hr.lw⟩
  have hlt1 : ∀ l ∈ e1.rws, l.length + 2 < 90000 := by rw [← he1]; exact hlt
  have hacc1 : e1.acc.length = e.acc.length := by rw [← he1]
  have hin : ∀ j ∈ [d, c], j < e1.acc.length := by
    intro j hj
    rw [hacc1]
    rcases List.mem_cons.1 hj with rfl | hj
    · exact hd
    · rw [List.mem_singleton.1 hj]; exact hc
  refine .sat (cs' := pts b62 (3, cells .i64 ([d, c].map fun (k : Nat) => (k : Int))) :: engO b e1 { i with pt := p49, ct := c49 } cs) (fun w hs => ?_) ?_
  · rw [← he1]
    exact hs.pm 10 [0, 4, 5, 6, 7, 8, 9]
  refine .cl (erow_tr b t.id (bclr t.flags 1) hev n [d, c] (by simp) κ hκ { i with pt := p49, ct := c49 } b62 cs e1 (by rw [← he1]; exact hi) (hr1.two hlt1 t.id (bclr t.flags 1) n d c) hin) ?_
  refine .e0 fun w hs => ?_
  refine ⟨{ i with pt := p49, ct := c49 }, hi, rfl, ?_⟩
  have e2 : e.add t n d c = e1.row t.id (bclr t.flags 1) n [d, c] := by rw [← he1, ← ht]; rfl
  rw [e2]
  exact hs.rows
end Go.Proofs.YtpcechnalfaajaaDoor

/- engine: release. -/
namespace Go.Proofs.YtpcechnalfaajaaDoor
open Go Go.Proofs

theorem release_tr (b : Nat) (e : Eng) (i : EngI) (hi : i.lb.length = e.rws.length) (bt k : Nat) (hbt : i.pt = some ⟨bt, 0, none⟩) (hk : k < e.trs.length) (held : Num) (d c : Nat) (hd : d < e.acc.length) (hc : c < e.acc.length) (nothing : Bool) (κ : Kap) (cs : List HProp) :
    Tr Tryd.prog 66 [.pointer (some ⟨b, 0, none⟩), .pointer (some ⟨bt, 0 + ((k : Nat) : Int).toNat * 16, none⟩), .agg (nm held).toArray, .int .i64 d, .int .i64 c, .bool nothing] κ (engO b e i cs) (.tuple #[]) (engO b (e.release e.trs[k] held d c nothing) i cs) := by
  refine .enter Tryd.func66 rfl rfl ?_
  refine .slp (p := i.pa) (cap := i.ca) (sz := 46) (n0 := e.acc.length) (by omega) (fun ba hba _ => ?_)
  unfold engO engH
  rw [hba, hbt]
  refine .seq ?_
  refine .reg ?_
  refine .bx fun b8 => ?_
  refine .go ?_
  refine .seq ?_
  rw [vc_agg]
  refine .regD [(b, 0, [.slice (some ⟨ba, 0, none⟩) e.acc.length i.ca, .slice (some ⟨bt, 0, none⟩) e.trs.length i.ct, .slice i.pr i.lb.length i.cr, ptrV i.bA, ptrV i.bI, .int .i64 e.time, .int .i64 e.now])] [] ?_
  refine .mv 0 ?_
  refine .nc 1 ?_
  refine .fa 2 ?_
  refine .fa 3 ?_
  refine .ld 4 ?_
  refine .mv 5 ?_
  refine .ix 6 ?_
  refine .mv 7 ?_
  refine .nc 8 ?_
  refine .fa 9 ?_
  refine .fa 10 ?_
  refine .ld 11 ?_
  refine .mv 12 ?_
  refine .ix 13 ?_
  refine .as 14 ?_
  refine .as 15 ?_
  refine .go ?_
  refine .seq ?_
  have hT : ∀ (cs : List HProp) [RdAt bt cs 0 (e.trs.flatMap encT)], RdAt bt cs (0 + ((k : Nat) : Int).toNat * 16) (encT e.trs[k]) := fun cs h => h.sub encT_len k hk
  have hA : ∀ (cs : List HProp) [RdAt ba cs 0 (e.acc.flatMap encA)], RdAt ba cs (0 + ((d : Nat) : Int).toNat * 46) (encA e.acc[d]) := fun cs h => h.sub encA_len d hd
  generalize hp : e.trs[k] = p at *
  generalize hx : e.acc[d] = x at *
  refine .regD [(b8, 0, nm held), (ba, 0 + ((d : Nat) : Int).toNat * 46, encA x)] [12] ?_
  refine .mv 0 ?_
  refine .mv 1 ?_
  refine .nc 2 ?_
  refine .fa 3 ?_
  refine .lx 4 (show getV true (encA x) 4 2 = some (.agg (nm x.dp).toArray) from rfl) ?_
  refine .ldw 5 ?_
  refine .cl 6 (sub_tr x.dp held κ _) ?_
  refine .mv 7 ?_
  refine .ex 8 ?_
  refine .ex 9 ?_
  refine .nc 10 ?_
  refine .fa 11 ?_
  have hp1 : putN (e.acc.flatMap encA) (0 + ((d : Nat) : Int).toNat * 46 + 4) (nm (subN x.dp held)) = some ((e.acc.set d { x with dp := subN x.dp held }).flatMap encA) := by
    rw [Nat.zero_add]
    exact flat_put (j := d) encA_len hd (by rw [hx]; rfl)
  refine .sx 12 (v := .agg (nm (subN x.dp held)).toArray) hp1 ?_
  generalize hA1 : e.acc.set d { x with dp := subN x.dp held } = A1 at *
  have hl1 : A1.length = e.acc.length := by rw [← hA1]; simp
  have hc1 : c < A1.length := by omega
  have hB : ∀ (cs : List HProp) [RdAt ba cs 0 (A1.flatMap encA)], RdAt ba cs (0 + ((c : Nat) : Int).toNat * 46) (encA A1[c]) := fun cs h => h.sub encA_len c hc1
  generalize hy : A1[c] = y at *
  refine .go ?_
  refine .seq ?_
  refine .regD [(b8, 0, nm held), (ba, 0 + ((c : Nat) : Int).toNat * 46, encA y)] [12] ?_
  refine .mv 0 ?_
  refine .mv 1 ?_
  refine .nc 2 ?_
  refine .fa 3 ?_
  refine .lx 4 (show getV true (encA y) 8 2 = some (.agg (nm y.cp).toArray) from rfl) ?_
  refine .ldw 5 ?_
  refine .cl 6 (sub_tr y.cp held κ _) ?_
  refine .mv 7 ?_
  refine .ex 8 ?_
  refine .ex 9 ?_
  refine .nc 10 ?_
  refine .fa 11 ?_
  have hp2 : putN (A1.flatMap encA) (0 + ((c : Nat) : Int).toNat * 46 + 8) (nm (subN y.cp held)) = some ((A1.set c { y with cp := subN y.cp held }).flatMap encA) := by
    rw [Nat.zero_add]
    exact flat_put (j := c) encA_len hc1 (by rw [hy]; rfl)
  refine .sx 12 (v := .agg (nm (subN y.cp held)).toArray) hp2 ?_
  generalize hA2 : A1.set c { y with cp := subN y.cp held } = A2 at *
  have hl2 : A2.length = e.acc.length := by rw [← hA2]; simp [hl1]
  have hd2 : d < A2.length := by omega
  have hD : ∀ (cs : List HProp) [RdAt ba cs 0 (A2.flatMap encA)], RdAt ba cs (0 + ((d : Nat) : Int).toNat * 46) (encA A2[d]) := fun cs h => h.sub encA_len d hd2
  generalize hx2 : A2[d] = x2 at *
  refine .go ?_
  have key : e.release p held d c nothing =
      (let A3 := if nothing = true ∧ band p.flags 64 ≠ 0 then A2.set d { x2 with flags := bclr x2.flags 8 } else A2
       { e with acc := if nothing = true ∧ band p.flags 128 ≠ 0 then A3.set c { A3.getD c zA with flags := bclr (A3.getD c zA).flags 8 } else A3 }) := by
    unfold Eng.release
    simp only
    rw [getD_at hd, hx, hA1, getD_at hc1, hy, hA2, getD_at hd2, hx2]
    by_cases g1 : nothing = true ∧ band p.flags 64 ≠ 0
    · by_cases g2 : nothing = true ∧ band p.flags 128 ≠ 0
      · simp only [if_pos g1, if_pos g2]
      · simp only [if_pos g1, if_neg g2]
    · by_cases g2 : nothing = true ∧ band p.flags 128 ≠ 0
      · simp only [if_neg g1, if_pos g2]
      · simp only [if_neg g1, if_neg g2]
  refine .jn (ι := List Account) (fun _ => [(1, .pointer (some ⟨bt, 0 + ((k : Nat) : Int).toNat * 16, none⟩)), (5, .bool nothing), (12, .pointer (some ⟨ba, 0 + ((d : Nat) : Int).toNat * 46, none⟩)), (13, .pointer (some ⟨ba, 0 + ((c : Nat) : Int).toNat * 46, none⟩))])
    (fun A3 => engH b { e with acc := A3 } { i with pa := some ⟨ba, 0, none⟩, pt := some ⟨bt, 0, none⟩ } (rowsP e.rws i.lb ++ cs))
    (fun A3 => A3 = (if nothing = true ∧ band p.flags 64 ≠ 0 then A2.set d { x2 with flags := bclr x2.flags 8 } else A2) ∧ A3.length = e.acc.length ∧ A3.map (·.id) = e.acc.map (·.id)) ?_ fun A3 h3 => ?_
  · have hid2 : A2.map (·.id) = e.acc.map (·.id) := by
      rw [← hA2, ids_set (e := { e with acc := A1 }) (by rw [getD_at hc1, hy]), ← hA1, ids_set (by rw [getD_at hd, hx])]
    have hid3 : (A2.set d { x2 with flags := bclr x2.flags 8 }).map (·.id) = e.acc.map (·.id) := by
      rw [ids_set (e := { e with acc := A2 }) (by rw [getD_at hd2, hx2]), hid2]
    refine .sat (cs' := engH b { e with acc := A2 } { i with pa := some ⟨ba, 0, none⟩, pt := some ⟨bt, 0, none⟩ } (rowsP e.rws i.lb ++ cs)) (fun w hs => ?_) ?_
    · have hs := hs.rows
      unfold engH
      rw [show ({ e with acc := A2 } : Eng).ids = e.ids from hid2, hl2]
      exact hs
    cases nothing with
    | false =>
      refine .seq ?_
      refine .reg ?_
      refine .mv ?_
      refine .mv ?_
      repeat refine .skip ?_
      first | refine .pt ?_ | refine .pf ?_
      refine .go ?_
      refine .cond rfl (fun hc => by cases hc) (fun hc => ?_)
      exact .skip fun aa w hf hs => ⟨A2, ⟨by rw [if_neg (fun h => by cases h.1)], hl2, hid2⟩, hf.to (by repeat (first | exact trivial | refine ⟨rfl, ?_⟩)), hs⟩
    | true =>
      unfold engH
      refine .seq ?_
      refine .reg ?_
      refine .mv ?_
      refine .mv ?_
      refine .mv ?_
      refine .nc ?_
      refine .fa ?_
      refine .lx (show getV false (encT p) 12 1 = some (.int .i64 p.flags) from rfl) ?_
      refine .an ?_
      refine .ne ?_
      first | refine .pt ?_ | refine .pf ?_
      refine .go ?_
      refine .cond rfl (fun hc => ?_) (fun hc => ?_)
      · refine .reg ?_
        refine .mv ?_
        refine .nc ?_
        refine .fa ?_
        refine .lx (show getV false (encA x2) 3 1 = some (.int .i64 x2.flags) from rfl) ?_
        refine .ano ?_
        refine .nc ?_
        refine .fa ?_
        have hp3 : putN (A2.flatMap encA) (0 + ((d : Nat) : Int).toNat * 46 + 3) [.int .i64 (bclr x2.flags 8)] = some ((A2.set d { x2 with flags := bclr x2.flags 8 }).flatMap encA) := by
          rw [Nat.zero_add]
          exact flat_put (j := d) encA_len hd2 (by rw [hx2]; rfl)
        refine .sx hp3 ?_
        refine .nil fun aa w hf hs => ⟨A2.set d { x2 with flags := bclr x2.flags 8 }, ⟨by rw [if_pos ⟨rfl, of_decide_eq_true hc⟩], by simp [hl2], hid3⟩, hf.to (by repeat (first | exact trivial | refine ⟨rfl, ?_⟩)), ?_⟩
        rw [show ({ e with acc := A2.set d { x2 with flags := bclr x2.flags 8 } } : Eng).ids = e.ids from hid3]
        rw [show ({ e with acc := A2 } : Eng).ids = e.ids from hid2] at hs
        simp only [List.length_set]
        exact hs
      · exact .skip fun aa w hf hs => ⟨A2, ⟨by rw [if_neg (fun h => of_decide_eq_false hc h.2)], hl2, hid2⟩, hf.to (by repeat (first | exact trivial | refine ⟨rfl, ?_⟩)), hs⟩
  · obtain ⟨h3a, hl3, hid3⟩ := h3
    rw [← h3a] at key
    simp only at key
    have hc3 : c < A3.length := by omega
    rw [key]
    rw [getD_at hc3]
    have hC : ∀ (cs : List HProp) [RdAt ba cs 0 (A3.flatMap encA)], RdAt ba cs (0 + ((c : Nat) : Int).toNat * 46) (encA A3[c]) := fun cs h => h.sub encA_len c hc3
    generalize hy3 : A3[c] = y3 at *
    have hid4 : (A3.set c { y3 with flags := bclr y3.flags 8 }).map (·.id) = e.acc.map (·.id) := by
      rw [ids_set (e := { e with acc := A3 }) (by rw [getD_at hc3, hy3]), hid3]
    cases nothing with
    | false =>
      refine .seq ?_
      refine .reg ?_
      refine .mv ?_
      refine .mv ?_
      repeat refine .skip ?_
      first | refine .pt ?_ | refine .pf ?_
      refine .go ?_
      refine .cond rfl (fun hc => by cases hc) (fun hc => ?_)
      refine .e0 fun w hs => ?_
      rw [if_neg (fun h => by cases h.1)]
      exact ⟨rfl, hs⟩
    | true =>
      unfold engH
      refine .seq ?_
      refine .reg ?_
      refine .mv ?_
      refine .mv ?_
      refine .mv ?_
      refine .nc ?_
      refine .fa ?_
      refine .lx (show getV false (encT p) 12 1 = some (.int .i64 p.flags) from rfl) ?_
      refine .an ?_
      refine .ne ?_
      first | refine .pt ?_ | refine .pf ?_
      refine .go ?_
      refine .cond rfl (fun hc => ?_) (fun hc => ?_)
      · refine .reg ?_
        refine .mv ?_
        refine .nc ?_
        refine .fa ?_
        refine .lx (show getV false (encA y3) 3 1 = some (.int .i64 y3.flags) from rfl) ?_
        refine .ano ?_
        refine .nc ?_
        refine .fa ?_
        have hp4 : putN (A3.flatMap encA) (0 + ((c : Nat) : Int).toNat * 46 + 3) [.int .i64 (bclr y3.flags 8)] = some ((A3.set c { y3 with flags := bclr y3.flags 8 }).flatMap encA) := by
          rw [Nat.zero_add]
          exact flat_put (j := c) encA_len hc3 (by rw [hy3]; rfl)
        refine .sx hp4 ?_
        refine .e0 fun w hs => ?_
        rw [if_pos ⟨rfl, of_decide_eq_true hc⟩]
        refine ⟨rfl, ?_⟩
        rw [show ({ e with acc := A3.set c { y3 with flags := bclr y3.flags 8 } } : Eng).ids = e.ids from hid4]
        rw [show ({ e with acc := A3 } : Eng).ids = e.ids from hid3] at hs
        simp only [List.length_set]
        exact hs
      · refine .e0 fun w hs => ?_
        rw [if_neg (fun h => of_decide_eq_false hc h.2)]
        exact ⟨rfl, hs⟩
end Go.Proofs.YtpcechnalfaajaaDoor

/- engine: Amount. -/
namespace Go.Proofs.YtpcechnalfaajaaDoor
open Go Go.Proofs

theorem findRow_at (at_ : Num) : ∀ (rs : List Row) (k : Nat), (∀ j (h : j < rs.length), j < k → ¬ (rs[j].tr = at_ ∧ rs[j].event ≥ 0)) → Eng.findRow at_ rs = Eng.findRow at_ (rs.drop k) := by
  intro rs
  induction rs with
  | nil => intro k _; simp
  | cons r t ih =>
    intro k h
    cases k with
    | zero => rfl
    | succ k =>
      have h0 := h 0 (by simp) (by omega)
      simp only [List.getElem_cons_zero] at h0
      rw [List.drop_succ_cons, ← ih k (fun j hj hk => by have := h (j + 1) (by simpa using hj) (by omega); simpa using this)]
      show (if r.tr = at_ ∧ r.event ≥ 0 then r.amount else Eng.findRow at_ t) = _
      rw [if_neg h0]
theorem amount_tr (b : Nat) (e : Eng) (hn : e.ids.Nodup) (hnt : e.tids.Nodup) (hr : RowOk e) (htl : e.trs.length < 600) (i : EngI) (hi : i.lb.length = e.rws.length) (id : Num) (hpay : ∀ t, e.transfer id = some t → posN (e.payer t) e.ids ≠ none) (κ : Kap) (cs : List HProp) :
    Tr Tryd.prog 24 [.pointer (some ⟨b, 0, none⟩), .agg (nm id).toArray] κ (engO b e i cs) (.agg (nm (e.amount id)).toArray) (engO b e i cs) := by
  refine .enter Tryd.func24 rfl rfl ?_
  refine .seq ?_
  refine .reg ?_
  refine .bx fun b3 => ?_
  refine .al fun b4 => ?_
  refine .go ?_
  refine .seq ?_
  refine .reg ?_
  refine .mv ?_
  rw [vc_agg]
  refine .ldw ?_
  refine .cl (Tr.ef2 (trans_tr b e hnt (by omega) i id κ _)) ?_
  unfold Eng.amount
  cases ht : e.transfer id with
  | none =>
    simp only [Option.getD_none, Option.isSome_none]
    refine .mv ?_
    refine .ex ?_
    refine .ex ?_
    refine .al fun b5 => ?_
    refine .stw ?_
    refine .as ?_
    refine .go ?_
    refine .seq ?_
    refine .seq ?_
    refine .reg ?_
    refine .mv ?_
    refine .nt ?_
    refine .go ?_
    refine .cond rfl (fun hc => ?_) (fun hc => by cases hc)   -- t21
    refine .seq ?_
    refine .reg ?_
    refine .bz ?_
    refine .st ?_
    refine .go ?_
    refine .r1 fun w hs => ?_
    exact ⟨rfl, hs.rows.rows.rows⟩
  | some t =>
    simp only [Option.getD_some, Option.isSome_some]
    have hpt := hpay t ht
    refine .mv ?_
    refine .ex ?_
    refine .ex ?_
    refine .al fun b5 => ?_
    refine .stw ?_
    refine .as ?_
    refine .go ?_
    refine .seq ?_
    refine .seq ?_
    refine .reg ?_
    refine .mv ?_
    refine .nt ?_
    refine .go ?_
    refine .cond rfl (fun hc => by cases hc) (fun hc => ?_)   -- t21
    rw [vc_agg]
    refine .go ?_
    refine .seq ?_
    refine .regD [(b5, 0, encT t)] [] ?_
    refine .fa 0 ?_
    refine .ld 1 (v := .agg (nm t.id).toArray) ?_
    refine .fa 2 ?_
    refine .ld 3 (v := .agg (nm t.debit).toArray) ?_
    refine .pend ?_
    refine .al 5 ?_
    refine .al 4 ?_
    refine .com fun b7 => ?_
    refine .com fun b8 => ?_
    refine .dn ?_
    refine .stw 6 ?_
    refine .stw 7 ?_
    rw [vc_agg, vc_agg]
    refine .go ?_
    refine .jn (ι := Unit) (fun _ => [(0, .pointer (some ⟨b, 0, none⟩)), (4, .pointer (some ⟨b4, 0, none⟩)), (7, .pointer (some ⟨b7, 0, none⟩)), (8, .pointer (some ⟨b8, 0, none⟩))])
      (fun _ => pts b8 (24, nm (e.payer t)) :: pts b7 (24, nm t.id) :: pts b4 (24, nm 0) :: engO b e i cs) (fun _ => True) ?_ fun _ _ => ?_
    · refine .seq ?_
      refine .reg ?_
      refine .fa ?_
      refine .ld (v := .agg (nm t.pid).toArray) ?_
      refine .bz ?_
      refine .nen t.pid 0 ?_
      refine .go ?_
      refine .cond rfl (fun hc => ?_) (fun hc => ?_)   -- t30
      · refine .seq ?_
        refine .reg ?_
        refine .mv ?_
        refine .fa ?_
        refine .ld (v := .agg (nm t.pid).toArray) ?_
        refine .cl (Tr.ef5 (trans_tr b e hnt (by omega) i t.pid κ _)) ?_
        have hpp : t.pid ≠ 0 := by simpa using hc
        have hpe : e.payer t = ((e.transfer t.pid).getD zT).debit := by unfold Eng.payer; rw [if_neg hpp]
        rw [hpe]
        generalize (e.transfer t.pid).getD zT = p at *
        refine .mv ?_
        refine .ex ?_
        refine .ex ?_
        refine .al fun b9 => ?_
        refine .stw ?_
        refine .as ?_
        rw [vc_agg]
        refine .go ?_
        refine .reg ?_
        refine .fa ?_
        refine .ld (v := .agg (nm p.debit).toArray) ?_
        refine .stw ?_
        exact .nil fun aa w hf hs => ⟨(), trivial, hf.to (by repeat (first | exact trivial | refine ⟨rfl, ?_⟩)), hs.pm 12 [1, 2, 4, 6, 7, 8, 9, 10, 11]⟩
      · have hpp : t.pid = 0 := by simpa using hc
        have hpe : e.payer t = t.debit := by unfold Eng.payer; rw [if_pos hpp]
        rw [hpe]
        exact .skip fun aa w hf hs => ⟨(), trivial, hf.to (by repeat (first | exact trivial | refine ⟨rfl, ?_⟩)), hs.pm 11 [0, 1, 3, 5, 6, 7, 8, 9, 10]⟩
    · generalize e.payer t = q at *
      refine .seq ?_
      refine .reg ?_
      refine .mv ?_
      refine .ldw ?_
      refine .cl (Tr.ef3 (rowsE_tr b e hn hr.la hr.lr i hi q κ _)) ?_
      unfold rowsV Eng.rowsOf
      cases hp : posN q e.ids with
      | none => exact absurd hp hpt
      | some j =>
        obtain ⟨hj0, _⟩ := posN_some hp
        have hil : e.ids.length = e.acc.length := by simp [Eng.ids]
        have hlr := hr.lr
        have hj : j < e.rws.length := by omega
        have hjb : j < i.lb.length := by omega
        simp only [Option.map_some, Option.getD_some]
        rw [getD_at hjb, getD_at hj]
        have hll : e.rws[j].length < 100000 := by have := hr.lw _ (List.getElem_mem hj); omega
        refine .sat (fun w hs => (eng_listF [_, _, _] hj hi).1 hs) ?_
        simp only [List.cons_append, List.nil_append]
        have hback : ∀ x w, Sat κ w (lstB i.lb[j] e.rws[j] :: pts b4 x :: engH b e i (rowsP (e.rws.take j) (i.lb.take j) ++ (rowsP (e.rws.drop (j + 1)) (i.lb.drop (j + 1)) ++ cs))) → Sat κ w (pts b4 x :: engO b e i cs) := fun x w hs => (eng_listF [_] hj hi).2 hs
        generalize engH b e i (rowsP (e.rws.take j) (i.lb.take j) ++ (rowsP (e.rws.drop (j + 1)) (i.lb.drop (j + 1)) ++ cs)) = R at *
        generalize i.lb[j] = bj at *
        generalize e.rws[j] = rs at *
        refine .as ?_
        refine .go ?_
        refine .seq ?_
        refine .seq ?_
        refine .reg ?_
        refine .mv ?_
        refine .cl (rlenB_tr bj rs κ _) ?_
        refine .mv ?_
        refine .go ?_
        refine .block ?_
        refine .lp (fun k : Nat => [(0, .pointer (some ⟨b, 0, none⟩)), (4, .pointer (some ⟨b4, 0, none⟩)), (7, .pointer (some ⟨b7, 0, none⟩)), (11, ptrV bj), (44, .int .i64 rs.length), (45, .int .i64 k)])
          (fun _ => lstB bj rs :: pts b8 (24, nm q) :: pts b7 (24, nm t.id) :: pts b4 (24, nm 0) :: R)
          (fun k => k ≤ rs.length ∧ Eng.findRow t.id rs = Eng.findRow t.id (rs.drop k)) (fun k => rs.length - k) 0 (by exact ⟨by omega, rfl⟩) (by repeat (first | exact trivial | refine ⟨rfl, ?_⟩)) rfl fun k hk => ?_
        refine .seq ?_
        refine .reg ?_
        refine .lt ?_
        refine .go ?_
        refine .seq ?_
        refine .cond rfl (fun hc => ?_) (fun hc => ?_)   -- t46
        · have hlt : k < rs.length := by have : (k : Int) < rs.length := of_decide_eq_true hc; omega
          have hdr := List.drop_eq_getElem_cons hlt
          refine .go ?_
          refine .seq ?_
          refine .block ?_
          refine .seq ?_
          refine .reg ?_
          refine .mv ?_
          refine .as ?_
          refine .go ?_
          refine .seq ?_
          refine .reg ?_
          refine .mv ?_
          refine .mv ?_
          refine .cl (ratB_tr bj rs k hlt hll κ _) ?_
          have hfr := hk.2
          rw [hdr] at hfr
          generalize rs[k] = r at *
          refine .al fun b13 => ?_
          refine .stw ?_
          refine .go ?_
          refine .seq ?_
          rw [vc_agg]
          refine .reg ?_
          refine .fa ?_
          refine .ld (v := .agg (nm r.tr).toArray) ?_
          refine .ldw ?_
          refine .eqn r.tr t.id ?_
          by_cases h1 : r.tr = t.id
          · rw [decide_eq_true h1]
            refine .mv ?_
            refine .fa ?_
            refine .ld (v := .int .i64 r.event) ?_
            refine .ge ?_
            first | refine .pt ?_ | refine .pf ?_
            refine .go ?_
            refine .cond rfl (fun hc => ?_) (fun hc => ?_)   -- t59
            · refine .seq ?_
              refine .reg ?_
              refine .fa ?_
              refine .ld (v := .agg (nm r.amount).toArray) ?_
              refine .stw ?_
              refine .go ?_
              refine .r1 fun w hs => ?_
              rw [hfr]
              have h2 : r.event ≥ 0 := of_decide_eq_true hc
              rw [show Eng.findRow t.id (r :: rs.drop (k + 1)) = r.amount from if_pos ⟨h1, h2⟩]
              exact ⟨rfl, (hback _ w (hs.pm 5 [1, 4])).rows⟩
            · have h2 : ¬ r.event ≥ 0 := of_decide_eq_false hc
              refine .go ?_
              refine .reg ?_
              refine .ad ?_
              refine .mv ?_
              exact .nil fun aa w hf hs => ⟨k + 1, ⟨by omega, hfr.trans (if_neg fun h => h2 h.2)⟩, by omega, hf.to (by repeat (first | exact trivial | refine ⟨rfl, ?_⟩)), hs.rows⟩
          · rw [decide_eq_false h1]
            refine .mv ?_
            repeat refine .skip ?_
            repeat refine .skip ?_
            first | refine .pt ?_ | refine .pf ?_
            refine .go ?_
            refine .cond rfl (fun hc => by cases hc) (fun hc => ?_)
            refine .go ?_
            refine .reg ?_
            refine .ad ?_
            refine .mv ?_
            exact .nil fun aa w hf hs => ⟨k + 1, ⟨by omega, hfr.trans (if_neg fun h => h1 h.1)⟩, by omega, hf.to (by repeat (first | exact trivial | refine ⟨rfl, ?_⟩)), hs.rows⟩
        · have hge : ¬ k < rs.length := by intro h; have := of_decide_eq_false hc; omega
          have hfr := hk.2
          rw [List.drop_of_length_le (by omega), show Eng.findRow t.id [] = 0 from rfl] at hfr
          rw [hfr]
          refine .xgo ?_
          refine .seq ?_
          refine .reg ?_
          refine .bz ?_
          refine .stw ?_
          refine .go ?_
          refine .r1 fun w hs => ?_
          exact ⟨rfl, (hback _ w (hs.pm 4 [0, 3])).rows⟩
end Go.Proofs.YtpcechnalfaajaaDoor

/- u128.Least. -/
namespace Go.Proofs.YtpcechnalfaajaaDoor
open Go Go.Proofs

theorem cmp_lt (a b : Num) : decide (cmpN a b < (0 : Int)) = decide (a.toNat < b.toNat) := by
  rcases cmp_ways a b with ⟨h, e⟩ | ⟨h, e⟩ | ⟨h, e⟩ <;> rw [e, decide_eq_decide] <;> omega
theorem least_step (x m : Num) : (if leastN.cmpZ x m < 0 then x else m) = if x.toNat < m.toNat then x else m := by
  have : leastN.cmpZ x m < 0 ↔ x.toNat < m.toNat := by
    unfold leastN.cmpZ
    split
    · rename_i h; simp [h]
    · rename_i h; split <;> simp [h]
  simp only [this]
theorem least_tr (xs : List Num) (hl : xs.length < 2147483648) (p : Option Addr) (cap : Nat) (κ : Kap) (cs : List HProp) (hr : RdS cs p (xs.flatMap nm)) :
    Tr Tryd.prog 23 [.slice p xs.length cap] κ cs (.agg (nm (leastN xs)).toArray) cs := by
  refine .enter Tryd.func23 rfl rfl ?_
  refine .seq ?_
  refine .reg ?_
  refine .al fun b2 => ?_
  refine .go ?_
  refine .seq ?_
  refine .reg ?_
  refine .cl (max_tr κ _) ?_
  refine .al fun b3 => ?_
  refine .stw ?_
  refine .go ?_
  refine .seq ?_
  refine .seq ?_
  refine .reg ?_
  refine .mv ?_
  refine .ln ?_
  refine .mv ?_
  refine .go ?_
  refine .block ?_
  rw [vc_agg]
  refine .lp (fun i : Nat => [(2, .pointer (some ⟨b2, 0, none⟩)), (3, .pointer (some ⟨b3, 0, none⟩)), (7, .slice p xs.length cap), (8, .int .i64 xs.length), (9, .int .i64 i)])
    (fun i => pts b3 (24, nm (leastN (xs.take i))) :: pts b2 (24, nm 0) :: cs) (fun i => i ≤ xs.length) (fun i => xs.length - i) 0 (by omega) (by repeat (first | exact trivial | refine ⟨rfl, ?_⟩)) rfl fun i hi => ?_
  refine .seq ?_
  refine .reg ?_
  refine .lt ?_
  refine .go ?_
  refine .seq ?_
  refine .cond rfl (fun hc => ?_) (fun hc => ?_)   -- t10
  · have hlt : i < xs.length := by simpa using hc
    rcases hr with hr | ⟨b, o, rfl, hr⟩
    · have : xs.length = 0 := by
        cases xs with
        | nil => rfl
        | cons x t => simp [nm] at hr
      omega
    refine .go ?_
    refine .seq ?_
    refine .block ?_
    refine .seq ?_
    refine .reg ?_
    refine .ix ?_
    refine .lx (flat_get nm 2 nm_len xs i 0 2 true (.agg (nm xs[i]).toArray) hlt rfl) ?_
    have hst : leastN (xs.take (i + 1)) = if xs[i].toNat < (leastN (xs.take i)).toNat then xs[i] else leastN (xs.take i) := by
      rw [List.take_succ_eq_append_getElem hlt]
      unfold leastN
      rw [List.foldl_append]
      exact least_step _ _
    generalize hy : xs[i] = y at *
    generalize leastN (xs.take i) = m at *
    refine .al fun b5 => ?_
    refine .stw ?_
    refine .go ?_
    rw [vc_agg]
    refine .seq ?_
    refine .reg ?_
    refine .ldw ?_
    refine .ldw ?_
    refine .cl (compare_tr y m κ _) ?_
    refine .lt ?_
    rw [cmp_lt]
    refine .go ?_
    refine .cond rfl (fun hc => ?_) (fun hc => ?_)   -- t16
    · have hc := of_decide_eq_true hc
      rw [if_pos hc] at hst
      refine .reg ?_
      refine .ldw ?_
      refine .stw ?_
      refine .go ?_
      refine .reg ?_
      refine .ad ?_
      refine .mv ?_
      refine .nil fun aa w hf hs => ⟨i + 1, by omega, by omega, hf.to (by repeat (first | exact trivial | refine ⟨rfl, ?_⟩)), ?_⟩
      rw [hst]
      exact hs.rows
    · have hc := of_decide_eq_false hc
      rw [if_neg hc] at hst
      refine .go ?_
      refine .reg ?_
      refine .ad ?_
      refine .mv ?_
      refine .nil fun aa w hf hs => ⟨i + 1, by omega, by omega, hf.to (by repeat (first | exact trivial | refine ⟨rfl, ?_⟩)), ?_⟩
      rw [hst]
      exact hs.rows
  · refine .xgo ?_
    have hge : i = xs.length := by have := of_decide_eq_false hc; omega
    subst hge
    rw [List.take_length]
    refine .seq ?_
    refine .reg ?_
    refine .ldw ?_
    refine .stw ?_
    refine .go ?_
    refine .r1 fun w hs => ?_
    exact ⟨rfl, hs.rows.rows⟩
theorem least2_tr (x y : Num) (b : Nat) (κ : Kap) (cs : List HProp) [h : RdAt b cs 0 [.int .u64 ((x.toNat / 18446744073709551616 : Nat) : Int), .int .u64 ((x.toNat % 18446744073709551616 : Nat) : Int), .int .u64 ((y.toNat / 18446744073709551616 : Nat) : Int), .int .u64 ((y.toNat % 18446744073709551616 : Nat) : Int)]] :
    Tr Tryd.prog 23 [.slice (some ⟨b, 0, none⟩) 2 2] κ cs (.agg (nm (leastN [x, y])).toArray) cs :=
  least_tr [x, y] (by simp) _ 2 κ cs (.inr ⟨b, 0, rfl, h⟩)
end Go.Proofs.YtpcechnalfaajaaDoor

/- engine: first. -/
namespace Go.Proofs.YtpcechnalfaajaaDoor
open Go Go.Proofs

def pendT (t : Transfer) : Bool := decide (band t.flags 2 ≠ 0)
def firX (t : Transfer) (n : Num) (x : Account) : Account := if pendT t then { x with dp := addN [x.dp, n] } else { x with dq := addN [x.dq, n] }
def firY (t : Transfer) (n : Num) (y : Account) : Account := if pendT t then { y with cp := addN [y.cp, n] } else { y with cq := addN [y.cq, n] }
def firO (t : Transfer) (n : Num) (x : Account) : Bool := if pendT t then fitN [x.dp, n] else fitN [x.dq, n]
def firI (t : Transfer) (n : Num) (y : Account) : Bool := if pendT t then fitN [y.cp, n] else fitN [y.cq, n]
def firC (t : Transfer) (m : Int) (x : Account) : Account := if band t.flags m ≠ 0 then { x with flags := bor x.flags 8 } else x
theorem first_eq (e : Eng) (t : Transfer) (d c : Nat) {x0 y0 x y : Account} {n : Num} {ok is : Bool} (hx0 : e.acc.getD d zA = x0) (hy0 : e.acc.getD c zA = y0) (hn : Eng.firstAmount t x0 y0 = n)
    (hx : firX t n x0 = x) (hy : firY t n y0 = y) (ho : firO t n x0 = ok) (hi : firI t n y0 = is) : e.first t d c =
    if ok = false ∨ is = false ∨ fitN [x.dp, x.dq] = false ∨ fitN [y.cp, y.cq] = false then (e, 28) else if withinA x = false then (e, 29) else if withinA y = false then (e, 30)
    else (({ e with acc := (e.acc.set d (firC t 64 x)).set c (firC t 128 y) }).add { t with state := if pendT t then 1 else 0 } n d c, 0) := by
  subst hx0 hy0 hn hx hy ho hi
  rfl
set_option maxHeartbeats 1000000 in
theorem first_tr (b : Nat) (e : Eng) (i : EngI) (hi : i.lb.length = e.rws.length) (t : Transfer) (d c : Nat) (hd : d < e.acc.length) (hc : c < e.acc.length) (hr : RowOk e) (hlt : ∀ l ∈ e.rws, l.length + 2 < 90000) (hn : e.tids.Nodup) (htl : e.trs.length < 600)
    (htm : -1000000000000 ≤ e.time ∧ e.time ≤ 1000000000000) (hev : -1000000000000 ≤ bclr t.flags 1 ∧ bclr t.flags 1 ≤ 1000000000000) (κ : Kap) (hκ : Laid κ) (cs : List HProp) :
    Te Tryd.prog 65 [.pointer (some ⟨b, 0, none⟩), .agg (encT t).toArray, .int .i64 d, .int .i64 c] κ (engO b e i cs) (fun i' : EngI => i'.lb.length = e.rws.length) (fun _ => .int .i64 (e.first t d c).2) (fun i' => engO b (e.first t d c).1 i' cs) := by
  refine .enter Tryd.func65 rfl rfl ?_
  refine .slp (p := i.pa) (cap := i.ca) (sz := 46) (n0 := e.acc.length) (by omega) (fun ba hba _ => ?_)
  have hx0 : e.acc.getD d zA = e.acc[d] := getD_at hd
  have hy0 : e.acc.getD c zA = e.acc[c] := getD_at hc
  refine .seq ?_
  refine .reg ?_
  refine .bx fun b5 => ?_
  refine .as ?_
  refine .go ?_
  refine .seq ?_
  refine .reg ?_
  refine .fa ?_
  rw [vc_agg]
  refine .ld (v := .agg (nm t.amount).toArray) ?_
  refine .al fun b9 => ?_
  refine .stw ?_
  refine .go ?_
  rw [vc_agg]
  refine .jn (ι := Unit) (fun _ => [(0, .pointer (some ⟨b, 0, none⟩)), (2, .int .i64 d), (3, .int .i64 c), (5, .pointer (some ⟨b5, 0, none⟩)), (8, .int .i64 0), (9, .pointer (some ⟨b9, 0, none⟩))])
    (fun _ => pts b9 (24, nm (if band t.flags 48 ≠ 0 ∧ t.amount = 0 then BitVec.allOnes 128 else t.amount)) :: pts b5 (43, encT t) :: engO b e i cs) (fun _ => True) ?_ fun _ _ => ?_
  · refine .seq ?_
    refine .reg ?_
    refine .fa ?_
    refine .ld (v := .int .i64 t.flags) ?_
    refine .an ?_
    refine .ne ?_
    refine .mv ?_
    by_cases h1 : band t.flags 48 ≠ 0
    · rw [decide_eq_true h1]
      refine .ldw ?_
      refine .bz ?_
      refine .eqn t.amount 0 ?_
      first | refine .pt ?_ | refine .pf ?_
      refine .go ?_
      refine .cond rfl (fun hc => ?_) (fun hc => ?_)   -- t28
      · rw [if_pos ⟨h1, of_decide_eq_true hc⟩]
        refine .reg ?_
        refine .cl (max_tr κ _) ?_
        refine .stw ?_
        exact .nil fun aa w hf hs => ⟨(), trivial, hf.to (by repeat (first | exact trivial | refine ⟨rfl, ?_⟩)), hs⟩
      · rw [if_neg fun h => of_decide_eq_false hc h.2]
        exact .skip fun aa w hf hs => ⟨(), trivial, hf.to (by repeat (first | exact trivial | refine ⟨rfl, ?_⟩)), hs⟩
    · rw [decide_eq_false h1, if_neg fun h => h1 h.1]
      repeat refine .skip ?_
      repeat refine .skip ?_
      repeat refine .skip ?_
      first | refine .pt ?_ | refine .pf ?_
      refine .go ?_
      refine .cond rfl (fun hc => by cases hc) (fun hc => ?_)
      exact .skip fun aa w hf hs => ⟨(), trivial, hf.to (by repeat (first | exact trivial | refine ⟨rfl, ?_⟩)), hs⟩
  have hfa : Eng.firstAmount t (e.acc.getD d zA) (e.acc.getD c zA) = (let n := if band t.flags 48 ≠ 0 ∧ t.amount = 0 then BitVec.allOnes 128 else t.amount
    let n := if band t.flags 16 ≠ 0 then leastN [n, roomN e.acc[d] true] else n
    if band t.flags 32 ≠ 0 then leastN [n, roomN e.acc[c] false] else n) := by rw [hx0, hy0]; rfl
  generalize (if band t.flags 48 ≠ 0 ∧ t.amount = 0 then BitVec.allOnes 128 else t.amount) = n1 at *
  refine .jn (ι := Unit) (fun _ => [(0, .pointer (some ⟨b, 0, none⟩)), (2, .int .i64 d), (3, .int .i64 c), (5, .pointer (some ⟨b5, 0, none⟩)), (8, .int .i64 0), (9, .pointer (some ⟨b9, 0, none⟩))])
    (fun _ => pts b9 (24, nm (if band t.flags 16 ≠ 0 then leastN [n1, roomN e.acc[d] true] else n1)) :: pts b5 (43, encT t) :: engO b e i cs) (fun _ => True) ?_ fun _ _ => ?_
  · refine .seq ?_
    refine .reg ?_
    refine .fa ?_
    refine .ld (v := .int .i64 t.flags) ?_
    refine .an ?_
    refine .ne ?_
    refine .go ?_
    refine .cond rfl (fun hc => ?_) (fun hc => ?_)
    · have h1 := of_decide_eq_true hc
      rw [if_pos h1]
      unfold engO engH
      rw [hba]
      have hA : ∀ (cs : List HProp) [RdAt ba cs 0 (e.acc.flatMap encA)], RdAt ba cs (0 + ((d : Nat) : Int).toNat * 46) (encA e.acc[d]) := fun cs h => h.sub encA_len d hd
      generalize e.acc[d] = x0 at *
      refine .regD [(b9, 0, nm n1), (b, 0, [.slice (some ⟨ba, 0, none⟩) e.acc.length i.ca, .slice i.pt e.trs.length i.ct, .slice i.pr i.lb.length i.cr, ptrV i.bA, ptrV i.bI, .int .i64 e.time, .int .i64 e.now]), (ba, 0 + ((d : Nat) : Int).toNat * 46, encA x0)] [12] ?_
      refine .ldw 0 ?_
      refine .mv 1 ?_
      refine .nc 2 ?_
      refine .fa 3 ?_
      refine .fa 4 ?_
      refine .ld 5 ?_
      refine .mv 6 ?_
      refine .ix 7 ?_
      refine .lx 8 (getV_whole (encA_len x0)) ?_
      refine .cl 9 (room_tr x0 true κ _) ?_
      refine .bs 10 fun b44 => ?_
      refine .cl 11 (least2_tr n1 (roomN x0 true) b44 κ _) ?_
      refine .stw 12 ?_
      exact .nil fun aa w hf hs => ⟨(), trivial, hf.to (by repeat (first | exact trivial | refine ⟨rfl, ?_⟩)), hs.pm 2 [1]⟩
    · rw [if_neg (of_decide_eq_false hc)]
      exact .skip fun aa w hf hs => ⟨(), trivial, hf.to (by repeat (first | exact trivial | refine ⟨rfl, ?_⟩)), hs⟩
  simp only at hfa
  generalize (if band t.flags 16 ≠ 0 then leastN [n1, roomN e.acc[d] true] else n1) = n2 at *
  refine .jn (ι := Unit) (fun _ => [(0, .pointer (some ⟨b, 0, none⟩)), (2, .int .i64 d), (3, .int .i64 c), (5, .pointer (some ⟨b5, 0, none⟩)), (8, .int .i64 0), (9, .pointer (some ⟨b9, 0, none⟩))])
    (fun _ => pts b9 (24, nm (if band t.flags 32 ≠ 0 then leastN [n2, roomN e.acc[c] false] else n2)) :: pts b5 (43, encT t) :: engO b e i cs) (fun _ => True) ?_ fun _ _ => ?_
  · refine .seq ?_
    refine .reg ?_
    refine .fa ?_
    refine .ld (v := .int .i64 t.flags) ?_
    refine .an ?_
    refine .ne ?_
    refine .go ?_
    refine .cond rfl (fun hc => ?_) (fun hc => ?_)
    · have h1 := of_decide_eq_true hc
      rw [if_pos h1]
      unfold engO engH
      rw [hba]
      have hA : ∀ (cs : List HProp) [RdAt ba cs 0 (e.acc.flatMap encA)], RdAt ba cs (0 + ((c : Nat) : Int).toNat * 46) (encA e.acc[c]) := fun cs h => h.sub encA_len c ‹c < e.acc.length›
      generalize e.acc[c] = x0 at *
      refine .regD [(b9, 0, nm n2), (b, 0, [.slice (some ⟨ba, 0, none⟩) e.acc.length i.ca, .slice i.pt e.trs.length i.ct, .slice i.pr i.lb.length i.cr, ptrV i.bA, ptrV i.bI, .int .i64 e.time, .int .i64 e.now]), (ba, 0 + ((c : Nat) : Int).toNat * 46, encA x0)] [12] ?_
      refine .ldw 0 ?_
      refine .mv 1 ?_
      refine .nc 2 ?_
      refine .fa 3 ?_
      refine .fa 4 ?_
      refine .ld 5 ?_
      refine .mv 6 ?_
      refine .ix 7 ?_
      refine .lx 8 (getV_whole (encA_len x0)) ?_
      refine .cl 9 (room_tr x0 false κ _) ?_
      refine .bs 10 fun b60 => ?_
      refine .cl 11 (least2_tr n2 (roomN x0 false) b60 κ _) ?_
      refine .stw 12 ?_
      exact .nil fun aa w hf hs => ⟨(), trivial, hf.to (by repeat (first | exact trivial | refine ⟨rfl, ?_⟩)), hs.pm 2 [1]⟩
    · rw [if_neg (of_decide_eq_false hc)]
      exact .skip fun aa w hf hs => ⟨(), trivial, hf.to (by repeat (first | exact trivial | refine ⟨rfl, ?_⟩)), hs⟩
  generalize (if band t.flags 32 ≠ 0 then leastN [n2, roomN e.acc[c] false] else n2) = n at *
  refine .jn (ι := Nat × Nat) (fun q => [(0, .pointer (some ⟨b, 0, none⟩)), (2, .int .i64 d), (3, .int .i64 c), (5, .pointer (some ⟨b5, 0, none⟩)), (8, .int .i64 0), (9, .pointer (some ⟨b9, 0, none⟩)), (10, .pointer (some ⟨q.1, 0, none⟩)), (11, .pointer (some ⟨q.2, 0, none⟩))])
    (fun q => pts q.2 (37, encA e.acc[c]) :: pts q.1 (37, encA e.acc[d]) :: pts b9 (24, nm n) :: pts b5 (43, encT t) :: engO b e i cs) (fun _ => True) ?_ fun q _ => ?_
  · unfold engO engH
    rw [hba]
    have hgd : getV true (e.acc.flatMap encA) (((d : Nat) : Int).toNat * 46) 46 = some (.agg (encA e.acc[d]).toArray) := flat_get encA 46 encA_len e.acc d 0 46 true _ hd (getV_whole (encA_len _))
    have hgc : getV true (e.acc.flatMap encA) (((c : Nat) : Int).toNat * 46) 46 = some (.agg (encA e.acc[c]).toArray) := flat_get encA 46 encA_len e.acc c 0 46 true _ hc (getV_whole (encA_len _))
    generalize e.acc[d] = x0 at *
    generalize e.acc[c] = y0 at *
    refine .regD [(b, 0, [.slice (some ⟨ba, 0, none⟩) e.acc.length i.ca, .slice i.pt e.trs.length i.ct, .slice i.pr i.lb.length i.cr, ptrV i.bA, ptrV i.bI, .int .i64 e.time, .int .i64 e.now]), (ba, 0, e.acc.flatMap encA)] [] ?_
    refine .mv 0 ?_
    refine .nc 1 ?_
    refine .fa 2 ?_
    refine .fa 3 ?_
    refine .ld 4 ?_
    refine .mv 5 ?_
    refine .ix 6 ?_
    refine .lx 7 hgd ?_
    refine .mv 8 ?_
    refine .nc 9 ?_
    refine .fa 10 ?_
    refine .fa 11 ?_
    refine .ld 12 ?_
    refine .mv 13 ?_
    refine .ix 14 ?_
    refine .lx 15 hgc ?_
    have hx46 : (encA x0).length = 46 := encA_len _
    have hy46 : (encA y0).length = 46 := encA_len _
    have hx1 : one (encA x0) = true := encA_one _
    have hy1 : one (encA y0) = true := encA_one _
    generalize encA x0 = X at *
    generalize encA y0 = Y at *
    refine .pend ?_
    refine .al 17 ?_
    refine .al 16 ?_
    refine .com fun b10 => ?_
    refine .com fun b11 => ?_
    refine .dn ?_
    refine .stw 18 (v := .agg X.toArray) ?_ (h := ⟨rfl, rfl, inferInstance, inferInstance, ⟨hx46, rfl⟩, hx1, rfl⟩)
    refine .stw 19 (v := .agg Y.toArray) ?_ (h := ⟨rfl, rfl, inferInstance, inferInstance, ⟨hy46, rfl⟩, hy1, rfl⟩)
    exact .nil fun aa w hf hs => ⟨(b10, b11), trivial, hf.to (by repeat (first | exact trivial | refine ⟨rfl, ?_⟩)), hs⟩
  generalize q.1 = b10 at *
  generalize q.2 = b11 at *
  refine .seq ?_
  refine .reg ?_
  refine .as ?_
  refine .as ?_
  refine .go ?_
  rw [hx0, hy0] at hfa
  have key := first_eq e t d c hx0 hy0 hfa rfl rfl rfl rfl
  generalize e.acc[d] = x0 at *
  generalize e.acc[c] = y0 at *
  refine .jn (ι := Unit) (fun _ => [(0, .pointer (some ⟨b, 0, none⟩)), (2, .int .i64 d), (3, .int .i64 c), (5, .pointer (some ⟨b5, 0, none⟩)), (8, .int .i64 0), (9, .pointer (some ⟨b9, 0, none⟩)), (10, .pointer (some ⟨b10, 0, none⟩)), (11, .pointer (some ⟨b11, 0, none⟩)), (12, .bool (firO t n x0)), (13, .bool (firI t n y0))])
    (fun _ => pts b11 (37, encA (firY t n y0)) :: pts b10 (37, encA (firX t n x0)) :: pts b9 (24, nm n) :: pts b5 (43, encT t) :: engO b e i cs) (fun _ => True) ?_ fun _ _ => ?_
  · refine .seq ?_
    refine .reg ?_
    refine .fa ?_
    refine .ld (v := .int .i64 t.flags) ?_
    refine .an ?_
    refine .ne ?_
    refine .go ?_
    refine .cond rfl (fun hc => ?_) (fun hc => ?_)
    · have e1 : firX t n x0 = { x0 with dp := addN [x0.dp, n] } := if_pos hc
      have e2 : firY t n y0 = { y0 with cp := addN [y0.cp, n] } := if_pos hc
      have e3 : firO t n x0 = fitN [x0.dp, n] := if_pos hc
      have e4 : firI t n y0 = fitN [y0.cp, n] := if_pos hc
      rw [e1, e2, e3, e4]
      refine .seq ?_
      refine .reg ?_
      refine .fa ?_
      refine .ld (v := .agg (nm x0.dp).toArray) ?_
      refine .ldw ?_
      refine .bs fun b86 => ?_
      refine .cl (add2_tr x0.dp n b86 κ _) ?_
      refine .mv ?_
      refine .ex ?_
      refine .ex ?_
      refine .fa ?_
      refine .sx (r' := encA { x0 with dp := addN [x0.dp, n] }) rfl ?_
      refine .as ?_
      refine .go ?_
      refine .reg ?_
      refine .fa ?_
      refine .ld (v := .agg (nm y0.cp).toArray) ?_
      refine .ldw ?_
      refine .bs fun b95 => ?_
      refine .cl (add2_tr y0.cp n b95 κ _) ?_
      refine .mv ?_
      refine .ex ?_
      refine .ex ?_
      refine .fa ?_
      refine .sx (r' := encA { y0 with cp := addN [y0.cp, n] }) rfl ?_
      refine .as ?_
      refine .nil fun aa w hf hs => ⟨(), trivial, hf.to (by repeat (first | exact trivial | refine ⟨rfl, ?_⟩)), ?_⟩
      exact hs.rows.rows
    · have hc1 : ¬ pendT t = true := fun h => by rw [show pendT t = false from hc] at h; cases h
      have e1 : firX t n x0 = { x0 with dq := addN [x0.dq, n] } := if_neg hc1
      have e2 : firY t n y0 = { y0 with cq := addN [y0.cq, n] } := if_neg hc1
      have e3 : firO t n x0 = fitN [x0.dq, n] := if_neg hc1
      have e4 : firI t n y0 = fitN [y0.cq, n] := if_neg hc1
      rw [e1, e2, e3, e4]
      refine .seq ?_
      refine .reg ?_
      refine .fa ?_
      refine .ld (v := .agg (nm x0.dq).toArray) ?_
      refine .ldw ?_
      refine .bs fun b104 => ?_
      refine .cl (add2_tr x0.dq n b104 κ _) ?_
      refine .mv ?_
      refine .ex ?_
      refine .ex ?_
      refine .fa ?_
      refine .sx (r' := encA { x0 with dq := addN [x0.dq, n] }) rfl ?_
      refine .as ?_
      refine .go ?_
      refine .reg ?_
      refine .fa ?_
      refine .ld (v := .agg (nm y0.cq).toArray) ?_
      refine .ldw ?_
      refine .bs fun b113 => ?_
      refine .cl (add2_tr y0.cq n b113 κ _) ?_
      refine .mv ?_
      refine .ex ?_
      refine .ex ?_
      refine .fa ?_
      refine .sx (r' := encA { y0 with cq := addN [y0.cq, n] }) rfl ?_
      refine .as ?_
      refine .nil fun aa w hf hs => ⟨(), trivial, hf.to (by repeat (first | exact trivial | refine ⟨rfl, ?_⟩)), ?_⟩
      exact hs.rows.rows
  have hxi : (firX t n x0).id = x0.id := by unfold firX; split <;> rfl
  have hyi : (firY t n y0).id = y0.id := by unfold firY; split <;> rfl
  generalize firX t n x0 = x at *
  generalize firY t n y0 = y at *
  generalize firO t n x0 = ok at *
  generalize firI t n y0 = is at *
  refine .seq ?_
  refine .reg ?_
  refine .fa ?_
  refine .ld (v := .agg (nm x.dp).toArray) ?_
  refine .fa ?_
  refine .ld (v := .agg (nm x.dq).toArray) ?_
  refine .bs fun b123 => ?_
  refine .cl (add2_tr x.dp x.dq b123 κ _) ?_
  refine .mv ?_
  refine .ex ?_
  refine .ex ?_
  refine .al fun b14 => ?_
  refine .stw ?_
  refine .as ?_
  refine .go ?_
  refine .seq ?_
  refine .reg ?_
  refine .fa ?_
  refine .ld (v := .agg (nm y.cp).toArray) ?_
  refine .fa ?_
  refine .ld (v := .agg (nm y.cq).toArray) ?_
  refine .bs fun b132 => ?_
  refine .cl (add2_tr y.cp y.cq b132 κ _) ?_
  refine .mv ?_
  refine .ex ?_
  refine .ex ?_
  refine .al fun b16 => ?_
  refine .stw ?_
  refine .as ?_
  refine .go ?_
  refine .pm 4 [] ?_
  refine .seq ?_
  refine .block ?_
  refine .seq ?_
  refine .reg ?_
  refine .mv ?_
  refine .nt ?_
  refine .mv ?_
  generalize fitN [x.dp, x.dq] = f1 at *
  generalize fitN [y.cp, y.cq] = f2 at *
  cases ok with
  | false =>
    repeat refine .skip ?_
    repeat refine .skip ?_
    first | refine .pt ?_ | refine .pf ?_
    refine .mv ?_
    repeat refine .skip ?_
    repeat refine .skip ?_
    first | refine .pt ?_ | refine .pf ?_
    refine .mv ?_
    repeat refine .skip ?_
    repeat refine .skip ?_
    first | refine .pt ?_ | refine .pf ?_
    refine .as ?_
    refine .go ?_
    refine .cond rfl (fun hc => ?_) (fun hc => by cases hc)
    refine .seq ?_
    refine .reg ?_
    refine .as ?_
    refine .go ?_
    refine .r1 fun w hs => ?_
    have k2 : e.first t d c = (e, 28) := key.trans (if_pos (.inl rfl))
    rw [k2]
    exact ⟨i, hi, rfl, hs.pm 4 []⟩
  | true =>
  refine .mv ?_
  refine .nt ?_
  first | refine .pt ?_ | refine .pf ?_
  refine .mv ?_
  cases is with
  | false =>
    repeat refine .skip ?_
    repeat refine .skip ?_
    first | refine .pt ?_ | refine .pf ?_
    refine .mv ?_
    repeat refine .skip ?_
    repeat refine .skip ?_
    first | refine .pt ?_ | refine .pf ?_
    refine .as ?_
    refine .go ?_
    refine .cond rfl (fun hc => ?_) (fun hc => by cases hc)
    refine .seq ?_
    refine .reg ?_
    refine .as ?_
    refine .go ?_
    refine .r1 fun w hs => ?_
    have k2 : e.first t d c = (e, 28) := key.trans (if_pos (.inr (.inl rfl)))
    rw [k2]
    exact ⟨i, hi, rfl, hs.pm 4 []⟩
  | true =>
  refine .mv ?_
  refine .nt ?_
  first | refine .pt ?_ | refine .pf ?_
  refine .mv ?_
  cases f1 with
  | false =>
    repeat refine .skip ?_
    repeat refine .skip ?_
    first | refine .pt ?_ | refine .pf ?_
    refine .as ?_
    refine .go ?_
    refine .cond rfl (fun hc => ?_) (fun hc => by cases hc)
    refine .seq ?_
    refine .reg ?_
    refine .as ?_
    refine .go ?_
    refine .r1 fun w hs => ?_
    have k2 : e.first t d c = (e, 28) := key.trans (if_pos (.inr (.inr (.inl rfl))))
    rw [k2]
    exact ⟨i, hi, rfl, hs.pm 4 []⟩
  | true =>
  refine .mv ?_
  refine .nt ?_
  first | refine .pt ?_ | refine .pf ?_
  refine .as ?_
  refine .go ?_
  cases f2 with
  | false =>
    skip
    refine .cond rfl (fun hc => ?_) (fun hc => by cases hc)
    refine .seq ?_
    refine .reg ?_
    refine .as ?_
    refine .go ?_
    refine .r1 fun w hs => ?_
    have k2 : e.first t d c = (e, 28) := key.trans (if_pos (.inr (.inr (.inr rfl))))
    rw [k2]
    exact ⟨i, hi, rfl, hs.pm 4 []⟩
  | true =>
  refine .cond rfl (fun hc => by cases hc) (fun hc => ?_)
  have key := key.trans (if_neg fun h => by rcases h with h | h | h | h <;> cases h)
  refine .seq ?_
  refine .reg ?_
  refine .ldw ?_
  refine .cl (within_tr x κ _) ?_
  refine .nt ?_
  refine .as ?_
  refine .go ?_
  generalize withinA x = w1 at *
  cases w1 with
  | false =>
    skip
    refine .cond rfl (fun hc => ?_) (fun hc => by cases hc)
    refine .seq ?_
    refine .reg ?_
    refine .as ?_
    refine .go ?_
    refine .r1 fun w hs => ?_
    have k2 : e.first t d c = (e, 29) := key.trans (if_pos rfl)
    rw [k2]
    exact ⟨i, hi, rfl, hs.pm 4 []⟩
  | true =>
  refine .cond rfl (fun hc => by cases hc) (fun hc => ?_)
  have key := key.trans (if_neg fun h => by cases h)
  refine .seq ?_
  refine .reg ?_
  refine .ldw ?_
  refine .cl (within_tr y κ _) ?_
  generalize withinA y = w2 at *
  refine .nt ?_
  refine .as ?_
  refine .go ?_
  cases w2 with
  | false =>
    skip
    refine .cond rfl (fun hc => ?_) (fun hc => by cases hc)
    refine .seq ?_
    refine .reg ?_
    refine .as ?_
    refine .go ?_
    refine .r1 fun w hs => ?_
    have k2 : e.first t d c = (e, 30) := key.trans (if_pos rfl)
    rw [k2]
    exact ⟨i, hi, rfl, hs.pm 4 []⟩
  | true =>
  refine .cond rfl (fun hc => by cases hc) (fun hc => ?_)
  have key := key.trans (if_neg fun h => by cases h)
  refine .go ?_
  refine .jn (ι := Unit) (fun _ => [(0, .pointer (some ⟨b, 0, none⟩)), (2, .int .i64 d), (3, .int .i64 c), (5, .pointer (some ⟨b5, 0, none⟩)), (9, .pointer (some ⟨b9, 0, none⟩)), (10, .pointer (some ⟨b10, 0, none⟩)), (11, .pointer (some ⟨b11, 0, none⟩))])
    (fun _ => pts b11 (37, encA y) :: pts b10 (37, encA (firC t 64 x)) :: pts b9 (24, nm n) :: pts b5 (43, encT t) :: engO b e i cs) (fun _ => True) ?_ fun _ _ => ?_
  · refine .seq ?_
    refine .reg ?_
    refine .fa ?_
    refine .ld (v := .int .i64 t.flags) ?_
    refine .an ?_
    refine .ne ?_
    refine .go ?_
    refine .cond rfl (fun hc => ?_) (fun hc => ?_)
    · rw [show firC t 64 x = { x with flags := bor x.flags 8 } from if_pos (of_decide_eq_true hc)]
      refine .reg ?_
      refine .fa ?_
      refine .ld (v := .int .i64 x.flags) ?_
      refine .or ?_
      refine .fa ?_
      refine .sx (r' := encA { x with flags := bor x.flags 8 }) rfl ?_
      exact .nil fun aa w hf hs => ⟨(), trivial, hf.to (by repeat (first | exact trivial | refine ⟨rfl, ?_⟩)), hs⟩
    · rw [show firC t 64 x = x from if_neg (of_decide_eq_false hc)]
      exact .skip fun aa w hf hs => ⟨(), trivial, hf.to (by repeat (first | exact trivial | refine ⟨rfl, ?_⟩)), hs⟩
  have hxi : (firC t 64 x).id = x0.id := by unfold firC; split <;> exact hxi
  generalize firC t 64 x = x1 at *
  refine .jn (ι := Unit) (fun _ => [(0, .pointer (some ⟨b, 0, none⟩)), (2, .int .i64 d), (3, .int .i64 c), (5, .pointer (some ⟨b5, 0, none⟩)), (9, .pointer (some ⟨b9, 0, none⟩)), (10, .pointer (some ⟨b10, 0, none⟩)), (11, .pointer (some ⟨b11, 0, none⟩))])
    (fun _ => pts b11 (37, encA (firC t 128 y)) :: pts b10 (37, encA x1) :: pts b9 (24, nm n) :: pts b5 (43, encT t) :: engO b e i cs) (fun _ => True) ?_ fun _ _ => ?_
  · refine .seq ?_
    refine .reg ?_
    refine .fa ?_
    refine .ld (v := .int .i64 t.flags) ?_
    refine .an ?_
    refine .ne ?_
    refine .go ?_
    refine .cond rfl (fun hc => ?_) (fun hc => ?_)
    · rw [show firC t 128 y = { y with flags := bor y.flags 8 } from if_pos (of_decide_eq_true hc)]
      refine .reg ?_
      refine .fa ?_
      refine .ld (v := .int .i64 y.flags) ?_
      refine .or ?_
      refine .fa ?_
      refine .sx (r' := encA { y with flags := bor y.flags 8 }) rfl ?_
      exact .nil fun aa w hf hs => ⟨(), trivial, hf.to (by repeat (first | exact trivial | refine ⟨rfl, ?_⟩)), hs⟩
    · rw [show firC t 128 y = y from if_neg (of_decide_eq_false hc)]
      exact .skip fun aa w hf hs => ⟨(), trivial, hf.to (by repeat (first | exact trivial | refine ⟨rfl, ?_⟩)), hs⟩
  have hyi : (firC t 128 y).id = y0.id := by unfold firC; split <;> exact hyi
  generalize firC t 128 y = y1 at *
  generalize he1 : ({ e with acc := (e.acc.set d x1).set c y1 } : Eng) = e1 at *
  have hacc1 : e1.acc = (e.acc.set d x1).set c y1 := by rw [← he1]
  have hl1 : e1.acc.length = e.acc.length := by rw [hacc1]; simp
  have hids : e1.ids = e.ids := by
    have a1 : (e.acc.set d x1).map (·.id) = e.acc.map (·.id) := ids_set (e := e) (by rw [hx0]; exact hxi)
    have a2 : (e.acc.set c y1).map (·.id) = e.acc.map (·.id) := ids_set (e := e) (by rw [hy0]; exact hyi)
    show e1.acc.map (·.id) = _
    rw [hacc1, List.map_set, a1, ← List.map_set, a2]; rfl
  have hp1 : putN (e.acc.flatMap encA) (0 + ((d : Nat) : Int).toNat * 46) (encA x1) = some ((e.acc.set d x1).flatMap encA) := by
    rw [Nat.zero_add]
    exact flat_put (j := d) (k := 0) encA_len hd (putN_all _ _ (by simp))
  have hp2 : putN ((e.acc.set d x1).flatMap encA) (0 + ((c : Nat) : Int).toNat * 46) (encA y1) = some (((e.acc.set d x1).set c y1).flatMap encA) := by
    rw [Nat.zero_add]
    exact flat_put (j := c) (k := 0) encA_len (by simpa using ‹c < e.acc.length›) (putN_all _ _ (by simp))
  rw [← hacc1] at hp2
  refine .jn (ι := Unit) (fun _ => [(0, .pointer (some ⟨b, 0, none⟩)), (2, .int .i64 d), (3, .int .i64 c), (5, .pointer (some ⟨b5, 0, none⟩)), (9, .pointer (some ⟨b9, 0, none⟩))])
    (fun _ => pts b9 (24, nm n) :: pts b5 (43, encT t) :: engO b e1 { i with pa := some ⟨ba, 0, none⟩ } cs) (fun _ => True) ?_ fun _ _ => ?_
  · unfold engO engH
    rw [hba]
    refine .regD [(b, 0, [.slice (some ⟨ba, 0, none⟩) e.acc.length i.ca, .slice i.pt e.trs.length i.ct, .slice i.pr i.lb.length i.cr, ptrV i.bA, ptrV i.bI, .int .i64 e.time, .int .i64 e.now]), (b10, 0, encA x1), (b11, 0, encA y1)] [] ?_
    refine .mv 0 ?_
    refine .nc 1 ?_
    refine .fa 2 ?_
    refine .fa 3 ?_
    refine .ld 4 ?_
    refine .mv 5 ?_
    refine .mv 6 ?_
    refine .nc 7 ?_
    refine .fa 8 ?_
    refine .fa 9 ?_
    refine .ld 10 ?_
    refine .mv 11 ?_
    refine .lx 12 (getV_whole (encA_len x1)) ?_
    refine .lx 13 (getV_whole (encA_len y1)) ?_
    have hx46 : (encA x1).length = 46 := encA_len _
    have hy46 : (encA y1).length = 46 := encA_len _
    have hx1 : one (encA x1) = true := encA_one _
    have hy1 : one (encA y1) = true := encA_one _
    generalize encA x1 = X at *
    generalize encA y1 = Y at *
    refine .ix 14 ?_
    refine .sx 15 (v := .agg X.toArray) hp1 ?_ rfl ⟨rfl, rfl, inferInstance, inferInstance, ⟨hx46, rfl⟩, hx1⟩
    refine .ix 16 ?_
    refine .sx 17 (v := .agg Y.toArray) hp2 ?_ rfl ⟨rfl, rfl, inferInstance, inferInstance, ⟨hy46, rfl⟩, hy1⟩
    refine .nil fun aa w hf hs => ⟨(), trivial, hf.to (by repeat (first | exact trivial | refine ⟨rfl, ?_⟩)), ?_⟩
    have hs := hs.pm 2 []
    rw [hids, hl1]
    subst he1
    exact hs
  have hr1 : RowOk e1 := by rw [← he1]; exact ⟨by simpa using hr.la, by simpa using hr.lr, hr.lw⟩
  have hlt1 : ∀ l ∈ e1.rws, l.length + 2 < 90000 := by rw [← he1]; exact hlt
  have hn1 : e1.tids.Nodup := by rw [← he1]; exact hn
  have ht1 : e1.trs.length < 600 := by rw [← he1]; exact htl
  have hm1 : -1000000000000 ≤ e1.time ∧ e1.time ≤ 1000000000000 := by rw [← he1]; exact htm
  have hw1 : e1.rws.length = e.rws.length := by rw [← he1]
  refine .seq ?_
  refine .reg ?_
  refine .fa ?_
  refine .sx (r' := encT { t with state := 0 }) rfl ?_
  refine .go ?_
  refine .jn (ι := Unit) (fun _ => [(0, .pointer (some ⟨b, 0, none⟩)), (2, .int .i64 d), (3, .int .i64 c), (5, .pointer (some ⟨b5, 0, none⟩)), (9, .pointer (some ⟨b9, 0, none⟩))])
    (fun _ => pts b9 (24, nm n) :: pts b5 (43, encT { t with state := if pendT t then 1 else 0 }) :: engO b e1 { i with pa := some ⟨ba, 0, none⟩ } cs) (fun _ => True) ?_ fun _ _ => ?_
  · refine .seq ?_
    refine .reg ?_
    refine .fa ?_
    refine .ld (v := .int .i64 t.flags) ?_
    refine .an ?_
    refine .ne ?_
    refine .go ?_
    refine .cond rfl (fun hc => ?_) (fun hc => ?_)
    · rw [show (if pendT t = true then (1 : Int) else 0) = 1 from if_pos hc]
      refine .reg ?_
      refine .fa ?_
      refine .sx (r' := encT { t with state := 1 }) rfl ?_
      exact .nil fun aa w hf hs => ⟨(), trivial, hf.to (by repeat (first | exact trivial | refine ⟨rfl, ?_⟩)), hs⟩
    · rw [show (if pendT t = true then (1 : Int) else 0) = 0 from if_neg fun h => by rw [show pendT t = false from hc] at h; cases h]
      exact .skip fun aa w hf hs => ⟨(), trivial, hf.to (by repeat (first | exact trivial | refine ⟨rfl, ?_⟩)), hs⟩
  generalize ht2 : ({ t with state := if pendT t then 1 else 0 } : Transfer) = t2 at *
  have hfl : t2.flags = t.flags := by rw [← ht2]
  refine .seq ?_
  refine .reg ?_
  refine .mv ?_
  refine .ld (v := .agg (encT t2).toArray) ?_
  refine .ldw ?_
  refine .mv ?_
  refine .mv ?_
  refine .sat (cs' := engO b e1 { i with pa := some ⟨ba, 0, none⟩ } cs) (fun w hs => hs.rows.rows) ?_
  refine .ce (eadd_tr b e1 { i with pa := some ⟨ba, 0, none⟩ } (by rw [hw1]; exact hi) t2 n d c (by rw [hl1]; exact hd) (by rw [hl1]; assumption) hr1 hlt1 hn1 ht1 hm1 (by rw [hfl]; exact hev) κ hκ cs) (fun i' hi' => ?_)
  refine .go ?_
  refine .seq ?_
  refine .reg ?_
  refine .as ?_
  refine .go ?_
  refine .r1 fun w hs => ?_
  rw [key]
  exact ⟨i', by rw [hi', hw1], rfl, hs⟩
end Go.Proofs.YtpcechnalfaajaaDoor

/- engine: makeAccount. -/
namespace Go.Proofs.YtpcechnalfaajaaDoor
open Go Go.Proofs

theorem bld_last {z' r : List Value} {pl : List (Nat × Nat)} {i o s : Nat} {v : Value} : ∀ {vs : List (Nat × Value)} {z : List Value}, bld z pl vs = some z' → pl[i]? = some (o, s) → (vc v).length = s → 0 < s → putN z' o (vc v) = some r → bld z pl (vs ++ [(i, v)]) = some r := by
  intro vs
  induction vs with
  | nil =>
    intro z h1 h2 h3 h4 h5
    cases h1
    have h6 : Nat.blt 0 s = true := by simpa [Nat.blt_eq] using h4
    simp [bld, h2, h3, h5, h6]
  | cons x t ih =>
    intro z h1 h2 h3 h4 h5
    obtain ⟨k, u⟩ := x
    simp only [List.cons_append, bld] at h1 ⊢
    split at h1
    · rename_i o' s' hp
      cases hb : Nat.beq (vc u).length s' && Nat.blt 0 s' with
      | false => rw [hb] at h1; cases h1
      | true =>
        rw [hb] at h1
        simp only [cond_true] at h1 ⊢
        split at h1
        · exact ih h1 h2 h3 h4 h5
        · cases h1
    · cases h1
theorem makeAccount_tr (b : Nat) (e : Eng) (i : EngI) (hi : i.lb.length = e.rws.length) (a : Account) (hn : e.ids.Nodup) (hr : RowOk e) (htm : -1000000000000 ≤ e.time ∧ e.time ≤ 1000000000000) (κ : Kap) (hκ : Laid κ) (cs : List HProp) :
    Te Tryd.prog 42 [.pointer (some ⟨b, 0, none⟩), .agg (encA a).toArray] κ (engO b e i cs) (fun i' : EngI => i'.lb.length = (e.makeAccount a).1.rws.length) (fun _ => .int .i64 (e.makeAccount a).2) (fun i' => engO b (e.makeAccount a).1 i' cs) := by
  refine .enter Tryd.func42 rfl rfl ?_
  have hla := hr.la
  have hlr0 := hr.lr
  have hil : e.ids.length = e.acc.length := by simp [Eng.ids]
  refine .seq ?_
  refine .reg ?_
  refine .bx fun b3 => ?_
  refine .as ?_
  refine .go ?_
  refine .seq ?_
  refine .seq ?_
  refine .reg ?_
  rw [vc_agg]
  refine .lx (getV_whole (encA_len a)) ?_
  refine .cl (ruleA_tr a κ _) ?_
  have key : e.makeAccount a = if ruleA a ≠ 0 then (e, ruleA a) else
    match e.account a.id with
    | some old => (e, againA a old)
    | none => if e.acc.length = 32 then (e, 31) else
      ({ e with time := e.time + 1, acc := e.acc ++ [⟨a.id, a.ledger, bclr a.flags 1, 0, 0, 0, 0, e.time + 1, 0, rootN []⟩], rws := e.rws ++ [[]] }, 0) := rfl
  refine .as ?_
  refine .go ?_
  refine .seq ?_
  refine .reg ?_
  refine .mv ?_
  refine .ne ?_
  refine .go ?_
  refine .cond rfl (fun hc => ?_) (fun hc => ?_)   -- t12
  · refine .seq ?_
    refine .reg ?_
    refine .mv ?_
    refine .as ?_
    refine .go ?_
    refine .r1 fun w hs => ?_
    have k2 := key.trans (if_pos (of_decide_eq_true hc))
    rw [k2]
    exact ⟨i, hi, rfl, hs.rows⟩
  have key := key.trans (if_neg (of_decide_eq_false hc))
  refine .go ?_
  refine .seq ?_
  refine .seq ?_
  refine .reg ?_
  refine .mv ?_
  refine .fa ?_
  refine .ld (v := .agg (nm a.id).toArray) ?_
  refine .cl (Tr.ef1 (acct_tr b e hn hla i a.id κ _)) ?_
  cases hp : e.account a.id with
  | some old =>
    rw [hp] at key
    have k2 : e.makeAccount a = (e, againA a old) := key
    rw [k2]
    refine .mv ?_
    refine .ex ?_
    refine .ex ?_
    refine .al fun b6 => ?_
    refine .stw (v := .agg (encA old).toArray) ?_
    rw [vc_agg]
    refine .as ?_
    refine .go ?_
    refine .seq ?_
    refine .reg ?_
    refine .mv ?_
    refine .go ?_
    refine .cond rfl (fun hc => ?_) (fun hc => by cases hc)   -- t21
    refine .seq ?_
    refine .reg ?_
    refine .lx (getV_whole (encA_len a)) ?_
    refine .lx (getV_whole (encA_len old)) ?_
    refine .cl (againA_tr a old κ _) ?_
    refine .as ?_
    refine .go ?_
    refine .r1 fun w hs => ?_
    exact ⟨i, hi, rfl, hs.rows.rows⟩
  | none =>
    rw [hp] at key
    have key : e.makeAccount a = if e.acc.length = 32 then (e, 31) else
      ({ e with time := e.time + 1, acc := e.acc ++ [⟨a.id, a.ledger, bclr a.flags 1, 0, 0, 0, 0, e.time + 1, 0, rootN []⟩], rws := e.rws ++ [[]] }, 0) := key
    refine .mv ?_
    refine .ex ?_
    refine .ex ?_
    refine .al fun b6 => ?_
    refine .stw (v := .agg (encA zA).toArray) ?_
    refine .pm 2 [1] ?_
    refine .as ?_
    refine .go ?_
    refine .seq ?_
    refine .reg ?_
    refine .mv ?_
    refine .go ?_
    refine .cond rfl (fun hc => by cases hc) (fun hc => ?_)   -- t21
    refine .go ?_
    refine .seq ?_
    refine .seq ?_
    refine .reg ?_
    refine .mv ?_
    refine .nc ?_
    refine .fa ?_
    refine .fa ?_
    refine .ld ?_
    refine .ln ?_
    refine .eq ?_
    refine .go ?_
    refine .cond rfl (fun hc => ?_) (fun hc => ?_)   -- t31
    · refine .seq ?_
      refine .reg ?_
      refine .as ?_
      refine .go ?_
      refine .r1 fun w hs => ?_
      have h32 : e.acc.length = 32 := by have := of_decide_eq_true hc; omega
      have k2 := key.trans (if_pos h32)
      rw [k2]
      exact ⟨i, hi, rfl, hs.rows⟩
    have h32 : ¬ e.acc.length = 32 := by have := of_decide_eq_false hc; omega
    have key := key.trans (if_neg h32)
    generalize ha1 : (⟨a.id, a.ledger, bclr a.flags 1, 0, 0, 0, 0, e.time + 1, 0, rootN []⟩ : Account) = a1 at *
    refine .go ?_
    refine .seq ?_
    refine .reg ?_
    refine .mv ?_
    refine .nc ?_
    refine .fa ?_
    refine .ld ?_
    refine .ad ?_
    refine .nc ?_
    refine .fa ?_
    refine .st ?_
    refine .go ?_
    refine .seq ?_
    refine .reg ?_
    refine .bz ?_
    refine .bx fun b40 => ?_
    refine .as ?_
    refine .go ?_
    refine .sat (cs' := lstB b40 [] :: pts b3 (37, encA a) :: pts b (92, [.slice i.pa e.acc.length i.ca, .slice i.pt e.trs.length i.ct, .slice i.pr i.lb.length i.cr, ptrV i.bA, ptrV i.bI, .int .i64 (e.time + 1), .int .i64 e.now]) :: sl 46 (.slice i.pa e.acc.length i.ca) (37, e.acc.flatMap encA) :: sl 16 (.slice i.pt e.trs.length i.ct) (43, e.trs.flatMap encT) :: sl 1 (.slice i.pr i.lb.length i.cr) (72, i.lb.map ptrV) ::
      ixB i.bA (idxOf e.ids) :: ixB i.bI (idxOf e.tids) :: (rowsP e.rws i.lb ++ cs)) (fun w hs => lst_in ((none, 0), (none, 0)) (((hs.nilS 32 35).nilS 14 71).pm 3 [2, 0, 1])) ?_
    refine .seq ?_
    refine .regD [(b, 0, [.slice i.pa e.acc.length i.ca, .slice i.pt e.trs.length i.ct, .slice i.pr i.lb.length i.cr, ptrV i.bA, ptrV i.bI, .int .i64 (e.time + 1), .int .i64 e.now]), (b3, 0, encA a)] [] ?_
    refine .mv 0 ?_
    refine .nc 1 ?_
    refine .fa 2 ?_
    refine .fa 3 ?_
    refine .ld 4 ?_
    refine .fa 5 ?_
    refine .ld 6 (v := .agg (nm a.id).toArray) ?_
    refine .mv 7 ?_
    refine .nc 8 ?_
    refine .fa 9 ?_
    refine .fa 10 ?_
    refine .ld 11 ?_
    refine .ln 12 ?_
    refine .pm 8 [6, 0, 1, 2, 3, 4, 5, 7] ?_
    refine .cl 13 (putB_tr i.bA (idxOf e.ids) (idx_srt hn) (by rw [idx_len hn, hil]; omega) a.id (e.acc.length : Int) κ _) ?_
    rw [← hil, ← idxOf_snoc, hil]
    refine .pm 8 [1, 2, 3, 4, 5, 6, 0, 7] ?_
    refine .go ?_
    refine .seq ?_
    refine .regD [(b, 0, [.slice i.pa e.acc.length i.ca, .slice i.pt e.trs.length i.ct, .slice i.pr i.lb.length i.cr, ptrV i.bA, ptrV i.bI, .int .i64 (e.time + 1), .int .i64 e.now]), (b3, 0, encA a)] [25] ?_
    refine .mv 0 ?_
    refine .mv 1 ?_
    refine .nc 2 ?_
    refine .fa 3 ?_
    refine .fa 4 ?_
    refine .ld 5 ?_
    refine .fa 6 ?_
    refine .ld 7 (v := .agg (nm a.id).toArray) ?_
    refine .fa 8 ?_
    refine .ld 9 (v := .int .i64 a.ledger) ?_
    refine .fa 10 ?_
    refine .ld 11 (v := .int .i64 a.flags) ?_
    refine .ano 12 ?_
    refine .mv 13 ?_
    refine .nc 14 ?_
    refine .fa 15 ?_
    refine .ld 16 ?_
    refine .mv 17 ?_
    refine .cl 18 (rrootB_tr b40 [] (by simp) κ hκ _) ?_
    refine .bd 19 (r := encA a1) ?_ rfl ⟨inferInstance, inferInstance, rfl, by rw [← ha1]; exact bld_last (vs := [(0, .agg (nm a.id).toArray), (1, .int .i64 a.ledger), (2, .int .i64 (bclr a.flags 1)), (7, .int .i64 (e.time + 1))]) (z' := encA ⟨a.id, a.ledger, bclr a.flags 1, 0, 0, 0, 0, e.time + 1, 0, zeroH⟩) (by kernel_rfl) rfl (hcells_len (rootN [])) (by decide) (putA_root _ (rootN []))⟩
    refine .bs1 (v := .agg (encA a1).toArray) (m := 46) 20 (fun b75 => ?_) (encA_len a1)
    rw [vc_agg]
    refine .ap (src := encA a1) (k := 1) (m := 46) 21 (.inr ⟨b75, 0, rfl, .ofRd (h := .head)⟩) (fun p76 c76 => ?_) (encA_len a1) (encA_one a1)
    refine .nc 22 ?_
    refine .fa 23 ?_
    refine .fa 24 ?_
    refine .st 25 ?_
    refine .go ?_
    have hlr : (e.acc ++ [a1]).length = e.acc.length + 1 := by simp
    have hft : (e.acc ++ [a1]).flatMap encA = e.acc.flatMap encA ++ encA a1 := by simp
    have htt : e.ids ++ [a.id] = (e.acc ++ [a1]).map (·.id) := by rw [← ha1]; simp [Eng.ids]
    have hll : (i.lb ++ [b40]).length = i.lb.length + 1 := by simp
    have hlm : (i.lb ++ [b40]).map ptrV = i.lb.map ptrV ++ [ptrV b40] := by simp
    rw [← hlr, ← hft, htt]
    refine .seq ?_
    refine .reg ?_
    refine .mv ?_
    refine .mv ?_
    refine .nc ?_
    refine .fa ?_
    refine .fa ?_
    refine .ld ?_
    refine .mv ?_
    refine .bs1 (v := ptrV b40) (m := 1) (fun b87 => ?_) rfl
    refine .ap (src := [ptrV b40]) (k := 1) (m := 1) (.inr ⟨b87, 0, rfl, .ofRd (h := .head)⟩) (fun p88 c88 => ?_) rfl rfl
    refine .nc ?_
    refine .fa ?_
    refine .fa ?_
    refine .st ?_
    refine .go ?_
    refine .seq ?_
    refine .reg ?_
    refine .as ?_
    refine .go ?_
    rw [← hll, ← hlm]
    refine .r1 fun w hs => ?_
    rw [key]
    refine ⟨⟨p76, c76, i.pt, i.ct, p88, c88, i.bA, i.bI, i.lb ++ [b40]⟩, by simp [hi], rfl, ?_⟩
    have h1 := hs.pm 10 [2, 4, 5, 6, 7, 8, 9]
    have h2 := h1.imp fun g hg => sepL_in ([_, _, _, _, _, _] ++ rowsP e.rws i.lb) hg
    have hrp : rowsP (e.rws ++ [[]]) (i.lb ++ [b40]) = rowsP e.rws i.lb ++ [lstB b40 []] := rowsP_app e.rws i.lb [[]] [b40] hi.symm
    show Sat κ w (engH b _ _ (rowsP (e.rws ++ [[]]) (i.lb ++ [b40]) ++ cs))
    rw [hrp, List.append_assoc]
    exact h2
end Go.Proofs.YtpcechnalfaajaaDoor

/- The engine's steps: what they keep. -/
namespace Go.Proofs.YtpcechnalfaajaaDoor
open Go Go.Proofs

/-- Code, some parts in. -/
def tailC : Nat → Code → Code
  | 0, c => c
  | n + 1, .seq _ y => tailC n y
  | _ + 1, c => c
theorem Co.more {P : Program} {Q : Exit → Act → World → Prop} {n : Nd} {κ : Kap} {c : Code} {fr fr' : List (Nat × Value)} {cs : List HProp} (h : Co P Q n κ c fr' cs) (h0 : allLook fr fr') : Co P Q n κ c fr cs :=
  fun a w hf hs => h a w (hf.to h0) hs
namespace Eng
theorem release_form (e : Eng) (p : Transfer) (held : Num) (d c : Nat) (nothing : Bool) : ∃ A : List Account, e.release p held d c nothing = { e with acc := A } ∧ A.length = e.acc.length ∧ A.map (·.id) = e.acc.map (·.id) := by
  unfold release
  simp only
  have s1 : ∀ (A : List Account) (j : Nat) (x : Account), x.id = (A.getD j zA).id → (A.set j x).length = A.length ∧ (A.set j x).map (·.id) = A.map (·.id) := fun A j x h => ⟨by simp, ids_set (e := { e with acc := A }) h⟩
  have a1 := s1 e.acc d { e.acc.getD d zA with dp := subN (e.acc.getD d zA).dp held } rfl
  generalize e.acc.set d { e.acc.getD d zA with dp := subN (e.acc.getD d zA).dp held } = A1 at *
  have a2 := s1 A1 c { A1.getD c zA with cp := subN (A1.getD c zA).cp held } rfl
  generalize A1.set c { A1.getD c zA with cp := subN (A1.getD c zA).cp held } = A2 at *
  have a3 := s1 A2 d { A2.getD d zA with flags := bclr (A2.getD d zA).flags 8 } rfl
  have a4 := fun A => s1 A c { A.getD c zA with flags := bclr (A.getD c zA).flags 8 } rfl
  by_cases h1 : nothing = true ∧ band p.flags 64 ≠ 0
  · by_cases h2 : nothing = true ∧ band p.flags 128 ≠ 0
    · rw [if_pos h1, if_pos h2]
      exact ⟨_, rfl, by rw [(a4 _).1, a3.1, a2.1, a1.1], by rw [(a4 _).2, a3.2, a2.2, a1.2]⟩
    · rw [if_pos h1, if_neg h2]
      exact ⟨_, rfl, by rw [a3.1, a2.1, a1.1], by rw [a3.2, a2.2, a1.2]⟩
  · by_cases h2 : nothing = true ∧ band p.flags 128 ≠ 0
    · rw [if_neg h1, if_pos h2]
      exact ⟨_, rfl, by rw [(a4 _).1, a2.1, a1.1], by rw [(a4 _).2, a2.2, a1.2]⟩
    · rw [if_neg h1, if_neg h2]
      exact ⟨_, rfl, by rw [a2.1, a1.1], by rw [a2.2, a1.2]⟩
theorem post_form (e : Eng) (n : Num) (d c : Nat) : ∃ A : List Account, e.post n d c = { e with acc := A } ∧ A.length = e.acc.length ∧ A.map (·.id) = e.acc.map (·.id) := by
  unfold post
  simp only
  have s1 : ∀ (A : List Account) (j : Nat) (x : Account), x.id = (A.getD j zA).id → (A.set j x).length = A.length ∧ (A.set j x).map (·.id) = A.map (·.id) := fun A j x h => ⟨by simp, ids_set (e := { e with acc := A }) h⟩
  have a1 := s1 e.acc d { e.acc.getD d zA with dq := addN [(e.acc.getD d zA).dq, n] } rfl
  generalize e.acc.set d { e.acc.getD d zA with dq := addN [(e.acc.getD d zA).dq, n] } = A1 at *
  have a2 := s1 A1 c { A1.getD c zA with cq := addN [(A1.getD c zA).cq, n] } rfl
  exact ⟨_, rfl, by rw [a2.1, a1.1], by rw [a2.2, a1.2]⟩
theorem setState_tids (e : Eng) (k : Nat) (s : Int) : (e.setState k s).tids = e.tids := tids_set (l := e.trs) rfl
end Eng
end Go.Proofs.YtpcechnalfaajaaDoor
