/- Part 2 of the proof: Sl13, Sl14, In, V0. -/
import Derived.Test.YtpcechnalfaajaaDoorP1
import Derived.Test.YtpcechnalfaajaaDoorProg
/- Regions that draw: new memory that may come at any time ahead of its use ('pending'). -/
namespace Go.Proofs.YtpcechnalfaajaaDoor
open Go

/-- An operation that makes a row: its number, its slot, its value by the block's number, the row. -/
structure Pd where
  i : Nat
  d : Nat
  V : Nat → Value
  x : TypeId × List Value

def exF : List (Pd × Option Nat) → List (Nat × Value)
  | [] => []
  | (p, some b) :: t => (p.d, p.V b) :: exF t
  | (_, none) :: t => exF t
def exC : List (Pd × Option Nat) → List HProp
  | [] => []
  | (p, some b) :: t => pts b p.x :: exC t
  | (_, none) :: t => exC t
def exI : List (Pd × Option Nat) → List Nat
  | [] => []
  | (p, some _) :: t => p.i :: exI t
  | (_, none) :: t => exI t
def unex : List (Pd × Option Nat) → List Nat
  | [] => []
  | (_, some _) :: t => unex t
  | (p, none) :: t => p.i :: unex t

section
variable {P : Program} {l : List Oper} {Q : Exit → Act → World → Prop} {L : List Nat} {W : List (Nat × Nat × List Value)} {n : Nd} {κ : Kap} {fuel : Nat} {done : List Nat} {fr : List (Nat × Value)} {cs : List HProp}

theorem wpM_more {S : Nat → World → Prop} {ops : Array Oper} : ∀ (fuel : Nat) (listed : Array Bool) (a : Act) (w : World), wpM P ops Q S fuel listed a w → wpM P ops Q S (fuel + 1) listed a w := by
  intro fuel
  induction fuel with
  | zero => intro listed a w h; exact ⟨fun _ => h.2, fun i hi => by rw [h.1] at hi; cases hi⟩
  | succ fuel ih => intro listed a w h; exact ⟨h.1, fun i hi => wpOpY_mono (fun a' w' h' => ⟨h'.1, ih _ a' w' h'.2⟩) (h.2 i hi)⟩
theorem wpM_le {S : Nat → World → Prop} {ops : Array Oper} {f f' : Nat} (hf : f ≤ f') {listed : Array Bool} {a : Act} {w : World} (h : wpM P ops Q S f listed a w) : wpM P ops Q S f' listed a w := by
  induction hf with
  | refl => exact h
  | step _ ih => exact wpM_more _ _ _ _ ih

theorem listedBy_move (m k : Nat) : ∀ (xs ys : List Nat), listedBy m (xs ++ k :: ys) = listedBy m (k :: (xs ++ ys)) := by
  intro xs
  induction xs with
  | nil => intro ys; rfl
  | cons x t ih =>
    intro ys
    show (listedBy m (t ++ k :: ys)).setIfInBounds x true = ((listedBy m (t ++ ys)).setIfInBounds x true).setIfInBounds k true
    rw [ih]
    show ((listedBy m (t ++ ys)).setIfInBounds k true).setIfInBounds x true = _
    by_cases h : k = x
    · subst h; rfl
    · rw [Array.setIfInBounds_comm _ _ h]

/-- The walk with rows pending: each may have come, or not. -/
def SdP (P : Program) (l : List Oper) (Q : Exit → Act → World → Prop) (L : List Nat) (W : List (Nat × Nat × List Value)) (n : Nd) (κ : Kap) (is : List Nat) (pend : List Pd) (fuel : Nat) (done : List Nat) (fr : List (Nat × Value)) (cs : List HProp) : Prop :=
  pend.map (·.i) = is → ∀ (e : List (Pd × Option Nat)), e.map (·.1) = pend → ∀ a w, Fr n a (exF e ++ fr) → Sat κ w (exC e ++ cs) → wpM P l.toArray (NoP Q) (Wt L W) (fuel + (unex e).length) (listedBy l.length (exI e ++ done)) a w

/-- All of them have come. -/
theorem SdP.dn (k : Sd P l Q L W n κ fuel done fr cs) : SdP P l Q L W n κ [] [] fuel done fr cs := by
  intro _ e he a w hf hs
  have : e = [] := by simpa using he
  subst this
  exact k a w hf hs
theorem Sd.pend (k : SdP P l Q L W n κ [] [] fuel done fr cs) : Sd P l Q L W n κ fuel done fr cs := fun a w hf hs => k rfl [] rfl a w hf hs
/-- One more row is pending. -/
theorem SdP.add (p : Pd) {is : List Nat} {pend : List Pd} (k : SdP P l Q L W n κ (p.i :: is) (p :: pend) fuel done fr cs) : SdP P l Q L W n κ is pend (fuel + 1) done fr cs := by
  intro his e he a w hf hs
  have := k (by simp [his]) ((p, none) :: e) (by simp [he]) a w hf hs
  simp only [unex, exI] at this
  rw [show fuel + 1 + (unex e).length = fuel + (p.i :: unex e).length by simp; omega]
  exact this

/-- Which of them have come, as Bools. -/
def combos : Nat → List (List Bool)
  | 0 => [[]]
  | k + 1 => (combos k).map (true :: ·) ++ (combos k).map (false :: ·)
def pick (b : Bool) : List Nat → List Bool → List Nat
  | i :: t, c :: u => bif (c == b) then i :: pick b t u else pick b t u
  | _, _ => []
theorem mem_combos : ∀ (bs : List Bool), bs ∈ combos bs.length := by
  intro bs
  induction bs with
  | nil => simp [combos]
  | cons b t ih => cases b <;> simp [combos, ih]
theorem pick_true : ∀ (e : List (Pd × Option Nat)), pick true ((e.map (·.1)).map (·.i)) (e.map (·.2.isSome)) = exI e := by
  intro e
  induction e with
  | nil => rfl
  | cons x t ih => obtain ⟨p, o⟩ := x; cases o <;> simp [pick, exI] <;> simpa using ih
theorem pick_false : ∀ (e : List (Pd × Option Nat)), pick false ((e.map (·.1)).map (·.i)) (e.map (·.2.isSome)) = unex e := by
  intro e
  induction e with
  | nil => rfl
  | cons x t ih => obtain ⟨p, o⟩ := x; cases o <;> simp [pick, unex] <;> simpa using ih
/-- Whatever has come, none but these and the pending ones can come now. -/
def chkR (l : List Oper) (is done ks : List Nat) : Bool :=
  (combos is.length).all fun bs => (Region.ready .any l.toArray (listedBy l.length (pick true is bs ++ done))).all fun j => memb j ks || memb j (pick false is bs)
def chkQs (l : List Oper) (is done : List Nat) (i : Nat) : Bool := (combos is.length).all fun bs => chkQ l (pick true is bs ++ done) i
def chkLs (l : List Oper) (is done : List Nat) (L : List Nat) (i : Nat) : Bool := (combos is.length).all fun bs => chkL l (pick true is bs ++ done) L i
/-- It can come now, whatever has come. -/
def chkQr (l : List Oper) (is done : List Nat) (i : Nat) : Bool := (combos is.length).all fun bs => memb i (Region.ready .any l.toArray (listedBy l.length (pick true is bs ++ done)))
/-- The first pending one can come, if it has not. -/
def chkQf (l : List Oper) (is done : List Nat) : Bool := match is with
  | [] => false
  | i :: t => (combos t.length).all fun bs => memb i (Region.ready .any l.toArray (listedBy l.length (pick true (i :: t) (false :: bs) ++ done))) &&
    (Region.ready .any l.toArray (listedBy l.length (pick true (i :: t) (false :: bs) ++ done))).all fun j => memb j (pick false (i :: t) (false :: bs))
theorem memb_mem {j : Nat} : ∀ {L : List Nat}, memb j L = true → j ∈ L := by
  intro L
  induction L with
  | nil => intro h; simp [memb] at h
  | cons x t ih =>
    intro h
    simp only [memb] at h
    cases hb : Nat.beq j x with
    | true => have := Nat.eq_of_beq_eq_true hb; subst this; exact List.mem_cons_self ..
    | false => rw [hb] at h; exact List.mem_cons_of_mem _ (ih (by simpa using h))
theorem chkR_ready {pend : List Pd} {ks : List Nat} (h : chkR l (pend.map (·.i)) done ks = true) {e : List (Pd × Option Nat)} (he : e.map (·.1) = pend) {j : Nat} (hj : j ∈ Region.ready .any l.toArray (listedBy l.length (exI e ++ done))) : j ∈ ks ∨ j ∈ unex e := by
  subst he
  simp only [chkR, List.all_eq_true] at h
  have hm : (e.map (·.2.isSome)) ∈ combos ((e.map (·.1)).map (·.i)).length := by simpa using mem_combos (e.map (·.2.isSome))
  have := h _ hm j (by rw [pick_true]; exact hj)
  rw [pick_false] at this
  simp only [Bool.or_eq_true] at this
  exact this.imp memb_mem memb_mem
theorem chkQs_at {pend : List Pd} {i : Nat} (h : chkQs l (pend.map (·.i)) done i = true) {e : List (Pd × Option Nat)} (he : e.map (·.1) = pend) : chkQ l (exI e ++ done) i = true := by
  subst he
  simp only [chkQs, List.all_eq_true] at h
  have hm : (e.map (·.2.isSome)) ∈ combos ((e.map (·.1)).map (·.i)).length := by simpa using mem_combos (e.map (·.2.isSome))
  have := h _ hm
  rwa [pick_true] at this
theorem chkQr_at {pend : List Pd} {i : Nat} (h : chkQr l (pend.map (·.i)) done i = true) {e : List (Pd × Option Nat)} (he : e.map (·.1) = pend) : i ∈ Region.ready .any l.toArray (listedBy l.length (exI e ++ done)) := by
  subst he
  simp only [chkQr, List.all_eq_true] at h
  have hm : (e.map (·.2.isSome)) ∈ combos ((e.map (·.1)).map (·.i)).length := by simpa using mem_combos (e.map (·.2.isSome))
  have := h _ hm
  rw [pick_true] at this
  exact memb_mem this
theorem chkQf_at {pend t : List Pd} {p : Pd} (hpt : pend = p :: t) (h : chkQf l (pend.map (·.i)) done = true) {e : List (Pd × Option Nat)} (he : e.map (·.1) = t) : p.i ∈ Region.ready .any l.toArray (listedBy l.length (exI ((p, none) :: e) ++ done)) ∧ ∀ j ∈ Region.ready .any l.toArray (listedBy l.length (exI ((p, none) :: e) ++ done)), j ∈ unex ((p, none) :: e) := by
  subst hpt he
  simp only [chkQf, List.map_cons, List.all_eq_true] at h
  have hm : (e.map (·.2.isSome)) ∈ combos ((e.map (·.1)).map (·.i)).length := by simpa using mem_combos (e.map (·.2.isSome))
  have hh := h _ hm
  simp only [Bool.and_eq_true, List.all_eq_true] at hh
  have e2 : pick true (p.i :: (e.map (·.1)).map (·.i)) (false :: e.map (·.2.isSome)) = exI ((p, none) :: e) := by
    have := pick_true ((p, none) :: e)
    simpa using this
  have e3 : pick false (p.i :: (e.map (·.1)).map (·.i)) (false :: e.map (·.2.isSome)) = unex ((p, none) :: e) := by
    have := pick_false ((p, none) :: e)
    simpa using this
  rw [e2, e3] at hh
  exact ⟨memb_mem hh.1, fun j hj => memb_mem (hh.2 j hj)⟩
theorem chkLs_at {pend : List Pd} {i : Nat} (h : chkLs l (pend.map (·.i)) done L i = true) {e : List (Pd × Option Nat)} (he : e.map (·.1) = pend) : chkL l (exI e ++ done) L i = true := by
  subst he
  simp only [chkLs, List.all_eq_true] at h
  have hm : (e.map (·.2.isSome)) ∈ combos ((e.map (·.1)).map (·.i)).length := by simpa using mem_combos (e.map (·.2.isSome))
  have := h _ hm
  rwa [pick_true] at this

/-- A pending operation can be carried out in this frame. -/
def Pd.ok (P : Program) (l : List Oper) (n : Nd) (κ : Kap) (fr : List (Nat × Value)) (p : Pd) : Prop :=
  ∃ op ty pos af, getO l p.i = some ⟨some p.d, op, ty, pos, af, none⟩ ∧ Nat.blt p.d n.n = true ∧ look fr p.d = none ∧
    ∀ cs, OpN P n κ ⟨some p.d, op, ty, pos, af, none⟩ fr cs fun v cs' => ∃ b, v = p.V b ∧ cs' = pts b p.x :: cs
def Pd.oks (P : Program) (l : List Oper) (n : Nd) (κ : Kap) (fr : List (Nat × Value)) : List Pd → Prop
  | [] => True
  | p :: t => p.ok P l n κ fr ∧ Pd.oks P l n κ fr t
theorem Pd.oks_mem {pend : List Pd} : Pd.oks P l n κ fr pend → ∀ p ∈ pend, p.ok P l n κ fr := by
  induction pend with
  | nil => intro _ p hp; cases hp
  | cons q t ih => intro h p hp; rcases List.mem_cons.1 hp with rfl | hp; exact h.1; exact ih h.2 p hp

theorem Fr.drop {a : Act} {e : List (Pd × Option Nat)} (hok : ∀ p ∈ e.map (·.1), look fr p.d = none) (h : Fr n a (exF e ++ fr)) : Fr n a fr := by
  refine h.weaken fun d v hl => ?_
  clear h
  induction e with
  | nil => exact hl
  | cons x t ih =>
    obtain ⟨p, o⟩ := x
    have ih := ih (fun q hq => hok q (by simp at hq ⊢; exact .inr hq))
    cases o with
    | none => exact ih
    | some b =>
      show look ((p.d, p.V b) :: (exF t ++ fr)) d = some v
      simp only [look]
      cases hb : Nat.beq p.d d with
      | true => have := Nat.eq_of_beq_eq_true hb; subst this; rw [hok p (by simp)] at hl; cases hl
      | false => simpa using ih
theorem Fr.ext {a : Act} {e : List (Pd × Option Nat)} {d : Nat} {v : Value} (hne : ∀ p ∈ e.map (·.1), p.d ≠ d) (h : Fr n a ((d, v) :: (exF e ++ fr))) : Fr n a (exF e ++ (d, v) :: fr) := by
  refine h.weaken fun t u hl => ?_
  clear h
  induction e with
  | nil => exact hl
  | cons x r ih =>
    obtain ⟨p, o⟩ := x
    have ih := ih (fun q hq => hne q (by simp at hq ⊢; exact .inr hq))
    cases o with
    | none => exact ih hl
    | some b =>
      have hl : look ((p.d, p.V b) :: (exF r ++ (d, v) :: fr)) t = some u := hl
      show look ((d, v) :: (p.d, p.V b) :: (exF r ++ fr)) t = some u
      have hd := hne p (by simp)
      simp only [look] at hl ⊢ ih
      cases hb : Nat.beq p.d t with
      | true =>
        have := Nat.eq_of_beq_eq_true hb; subst this
        have h2 : Nat.beq d p.d = false := by
          cases h3 : Nat.beq d p.d with
          | false => rfl
          | true => exact absurd (Nat.eq_of_beq_eq_true h3).symm hd
        rw [h2]
        simpa [hb] using hl
      | false =>
        rw [hb] at hl
        have := ih (by simpa using hl)
        cases h3 : Nat.beq d t with
        | true => rw [h3] at this; simpa using this
        | false => rw [h3] at this; simpa using this

theorem hold_sub {W : List (Nat × Nat × List Value)} {F cs : List HProp} (hW : WOk cs W) : ∀ {κ w}, Sat κ w (F ++ cs) → ∀ x ∈ W, HoldsAt w x := by
  intro κ w hs
  induction F with
  | nil => exact hW.out hs
  | cons c t ih => exact ih hs.rows

/-- What a pending one does when it comes. -/
theorem SdP.come {pend : List Pd} (hok : Pd.oks P l n κ fr pend) (hnd : (pend.map (·.d)).Nodup) (hWc : WOk cs W) {fuel m : Nat}
    (ih : ∀ (e : List (Pd × Option Nat)), e.map (·.1) = pend → ∀ a w, Fr n a (exF e ++ fr) → Sat κ w (exC e ++ cs) → (unex e).length = m → wpM P l.toArray (NoP Q) (Wt L W) fuel (listedBy l.length (exI e ++ done)) a w)
    {e : List (Pd × Option Nat)} (he : e.map (·.1) = pend) {a : Act} {w : World} (hf : Fr n a (exF e ++ fr)) (hs : Sat κ w (exC e ++ cs)) (hfu : (unex e).length = m + 1) {j : Nat} (hj : j ∈ unex e) :
    wpOpY P l.toArray (NoP Q) j (fun a' w' => (w' = w ∨ Wt L W j w') ∧ wpM P l.toArray (NoP Q) (Wt L W) fuel ((listedBy l.length (exI e ++ done)).setIfInBounds j true) a' w') a w := by
  -- part e at the one that comes
  obtain ⟨e1, p, e2, rfl, rfl⟩ : ∃ e1 p e2, e = e1 ++ (p, none) :: e2 ∧ p.i = j := by
    clear ih hf hs hfu he
    induction e with
    | nil => simp [unex] at hj
    | cons x t iht =>
      obtain ⟨p, o⟩ := x
      cases o with
      | none =>
        simp only [unex] at hj
        rcases List.mem_cons.1 hj with rfl | hj
        · exact ⟨[], p, t, rfl, rfl⟩
        · obtain ⟨e1, q, e2, rfl, h⟩ := iht hj; exact ⟨(p, none) :: e1, q, e2, rfl, h⟩
      | some b => obtain ⟨e1, q, e2, rfl, h⟩ := iht (by simpa [unex] using hj); exact ⟨(p, some b) :: e1, q, e2, rfl, h⟩
  have hmem : p ∈ pend := by rw [← he]; simp
  obtain ⟨op, ty, pos, af, hi, hd, hlook, hop⟩ := Pd.oks_mem hok p hmem
  have hall : ∀ q ∈ (e1 ++ (p, none) :: e2).map (·.1), look fr q.d = none := fun q hq => by
    obtain ⟨_, _, _, _, _, _, h, _⟩ := Pd.oks_mem hok q (by rw [← he]; exact hq); exact h
  have hf0 := Fr.drop hall hf
  have hi' : l.toArray[p.i]? = some ⟨some p.d, op, ty, pos, af, none⟩ := by rw [← getO_eq]; exact hi
  have exF_app : ∀ (x y : List (Pd × Option Nat)), exF (x ++ y) = exF x ++ exF y := by
    intro x y; induction x with
    | nil => rfl
    | cons z t iht => obtain ⟨q, o⟩ := z; cases o <;> simp [exF, iht]
  have exC_app : ∀ (x y : List (Pd × Option Nat)), exC (x ++ y) = exC x ++ exC y := by
    intro x y; induction x with
    | nil => rfl
    | cons z t iht => obtain ⟨q, o⟩ := z; cases o <;> simp [exC, iht]
  have exI_app : ∀ (x y : List (Pd × Option Nat)), exI (x ++ y) = exI x ++ exI y := by
    intro x y; induction x with
    | nil => rfl
    | cons z t iht => obtain ⟨q, o⟩ := z; cases o <;> simp [exI, iht]
  have unex_app : ∀ (x y : List (Pd × Option Nat)), unex (x ++ y) = unex x ++ unex y := by
    intro x y; induction x with
    | nil => rfl
    | cons z t iht => obtain ⟨q, o⟩ := z; cases o <;> simp [unex, iht]
  unfold wpOpY
  have hwant : Region.wanted (⟨some p.d, op, ty, pos, af, none⟩ : Oper) (yielded l.toArray a.tmps) = true := rfl
  simp only [hi', hwant, if_true]
  refine hop (exC (e1 ++ (p, none) :: e2) ++ cs) a w _ _ hf0 hs fun v cs' w' ⟨b, hv, hc⟩ hs' => ?_
  subst hv hc
  refine ⟨.inr fun _ x hx => hold_sub (F := pts b p.x :: exC (e1 ++ (p, none) :: e2)) hWc hs' x hx, ?_⟩
  have hnd' : ∀ q ∈ e1.map (·.1), q.d ≠ p.d := by
    intro q hq
    rw [← he] at hnd
    simp only [List.map_append, List.map_cons, List.map_map] at hnd
    rw [List.nodup_append] at hnd
    have := hnd.2.2 q.d (by simp at hq ⊢; obtain ⟨o, hq⟩ := hq; exact ⟨q, ⟨o, hq⟩, rfl⟩) p.d (by simp)
    exact this
  have key := ih (e1 ++ (p, some b) :: e2) (by rw [← he]; simp) (a.put (some p.d) (p.V b)) w' ?_ ?_ ?_
  · rw [exI_app] at key ⊢
    simp only [exI] at key ⊢
    rw [show exI e1 ++ p.i :: exI e2 ++ done = exI e1 ++ p.i :: (exI e2 ++ done) by simp, listedBy_move] at key
    simpa [listedBy] using key
  · rw [exF_app] at hf ⊢
    simp only [exF] at hf ⊢
    have := hf.put (v := p.V b) hd
    have h2 := Fr.ext (fr := exF e2 ++ fr) hnd' (by simpa using this)
    simpa using h2
  · rw [exC_app] at hs' ⊢
    simp only [exC] at hs' ⊢
    refine hs'.imp fun g hg => ?_
    have mv : ∀ (x : List HProp) (c : HProp) (y : List HProp) g, sepL κ (c :: (x ++ y)) g → sepL κ (x ++ c :: y) g := by
      intro x c y
      induction x with
      | nil => intro g h; exact h
      | cons z t iht => intro g h; exact sepL_tail (fun g h => iht g h) (sepL_swap h)
    have := mv (exC e1) (pts b p.x) (exC e2 ++ cs) g (by simpa using hg)
    simpa using this
  · rw [unex_app] at hfu ⊢
    simp [unex] at hfu ⊢
    omega

theorem look_app {e : List (Nat × Value)} {fr : List (Nat × Value)} {t : Nat} (h : ∀ x ∈ e, x.1 ≠ t) : look (e ++ fr) t = look fr t := by
  induction e with
  | nil => rfl
  | cons x r ih =>
    obtain ⟨d, v⟩ := x
    show look ((d, v) :: (r ++ fr)) t = _
    simp only [look]
    have : Nat.beq d t = false := by
      cases hb : Nat.beq d t with
      | false => rfl
      | true => exact absurd (Nat.eq_of_beq_eq_true hb) (h (d, v) (List.mem_cons_self ..))
    rw [this]
    exact ih fun y hy => h y (List.mem_cons_of_mem _ hy)

theorem memb_no {d : Nat} : ∀ {L : List Nat}, memb d L = false → d ∉ L := by
  intro L
  induction L with
  | nil => intro _ h; cases h
  | cons x t ih =>
    intro h
    simp only [memb] at h
    cases hb : Nat.beq d x with
    | true => rw [hb] at h; cases h
    | false =>
      rw [hb] at h
      intro hm
      rcases List.mem_cons.1 hm with rfl | hm
      · simp [Nat.beq_refl] at hb
      · exact ih (by simpa using h) hm

theorem fr_drop {e : List (Pd × Option Nat)} {a : Act} (h : Fr n a (exF e ++ fr)) (hn : ∀ p ∈ e.map (·.1), look fr p.d = none) : Fr n a fr := Fr.drop hn h

section
variable {d : Nat} {op : Op} {ty : TypeId} {pos : String} {af : Array Edge} {g : Option (Nat × Bool)} {is : List Nat} {pend : List Pd}
/-- The pending ones' slots are not in the frame. -/
def offF (fr : List (Nat × Value)) : List Pd → Bool
  | [] => true
  | p :: t => (match look fr p.d with | none => true | some _ => false) && offF fr t
theorem offF_mem : ∀ {pend : List Pd}, offF fr pend = true → ∀ p ∈ pend, look fr p.d = none := by
  intro pend
  induction pend with
  | nil => intro _ p hp; cases hp
  | cons q t ih =>
    intro h p hp
    simp only [offF, Bool.and_eq_true] at h
    rcases List.mem_cons.1 hp with rfl | hp
    · revert h; cases look fr p.d with
      | none => intro _; rfl
      | some _ => intro h; simp at h
    · exact ih h.2 p hp
theorem SdP.q {v : Value} (i : Nat) (hi : getO l i = some ⟨some d, op, ty, pos, af, g⟩) (h : OpQ P n ⟨some d, op, ty, pos, af, g⟩ fr v) (k : SdP P l Q L W n κ is pend fuel (i :: done) ((d, v) :: fr) cs)
    (hd : Nat.blt d n.n = true) (hw : wantedF l.toArray fr g true = true) (hchk : (chkQs l is done i && !memb d (pend.map (·.d)) && offF fr pend) = true) : SdP P l Q L W n κ is pend (fuel + 1) done fr cs := by
  intro his e he a w hf hs
  simp only [Bool.and_eq_true, Bool.not_eq_true'] at hchk
  have hq := chkQs_at (pend := pend) (by rw [his]; exact hchk.1.1) he
  have hoff : ∀ p ∈ e.map (·.1), look fr p.d = none := fun p hp => offF_mem hchk.2 p (by rw [he] at hp; exact hp)
  have hf0 := Fr.drop hoff hf
  rw [show fuel + 1 + (unex e).length = fuel + (unex e).length + 1 by omega]
  refine Sd.hoist (fun _ => True) (fun _ => True) hi hq (v := v) (.inl ⟨wanted_of (o := ⟨some d, op, ty, pos, af, g⟩) hf0 hw, fun w _ => h a w hf0⟩) trivial trivial (fun _ _ _ _ => trivial) (fun _ _ _ _ _ _ _ _ => trivial) ?_
  have := k his e he (a.put (some d) v) w (Fr.ext (fun p hp hpd => memb_no hchk.1.2 (by rw [← hpd]; rw [he] at hp; exact List.mem_map_of_mem hp)) (hf.put hd)) hs
  rw [listedBy_move] at this
  exact this
theorem SdP.a {v : Value} {b o : Nat} {r : List Value} (i : Nat) (hi : getO l i = some ⟨some d, op, ty, pos, af, g⟩) [hr : RdAt b cs o r] (hm : (b, o, r) ∈ W) (h : OpA P n ⟨some d, op, ty, pos, af, g⟩ fr b o r v)
    (k : SdP P l Q L W n κ is pend fuel (i :: done) ((d, v) :: fr) cs)
    (hd : Nat.blt d n.n = true) (hw : wantedF l.toArray fr g true = true) (hchk : (chkLs l is done L i && !memb d (pend.map (·.d)) && offF fr pend) = true) : SdP P l Q L W n κ is pend (fuel + 1) done fr cs := by
  intro his e he a w hf hs
  simp only [Bool.and_eq_true, Bool.not_eq_true'] at hchk
  have hl := chkLs_at (pend := pend) (by rw [his]; exact hchk.1.1) he
  have hq : chkQ l (exI e ++ done) i = true := by simp only [chkL, Bool.and_eq_true] at hl; exact hl.1
  have hoff : ∀ p ∈ e.map (·.1), look fr p.d = none := fun p hp => offF_mem hchk.2 p (by rw [he] at hp; exact hp)
  have hf0 := Fr.drop hoff hf
  rw [show fuel + 1 + (unex e).length = fuel + (unex e).length + 1 by omega]
  have tails : ∀ (F : List HProp), Sat κ w (F ++ cs) → Sat κ w cs := by
    intro F; induction F with
    | nil => exact id
    | cons c t ih => intro h; exact ih h.rows
  refine Sd.hoist (fun w => HoldsAt w (b, o, r)) (DpL l (exI e ++ done) L) hi hq (v := v) (.inl ⟨wanted_of (o := ⟨some d, op, ty, pos, af, g⟩) hf0 hw, fun w hI => ?_⟩) (fun hl' => hr.out (tails _ hs) hl') (DpL.init hl) (fun _ _ h hj => h.step hj) (fun listed hD hun j hj hji w hW => hW (chkL_late hl hD hun hj hji) _ hm) ?_
  · obtain ⟨T, pre, sp, fz, hp, hb⟩ := hI h.1
    exact h.2 a w T pre sp fz hf0 hp hb
  · have := k his e he (a.put (some d) v) w (Fr.ext (fun p hp hpd => memb_no hchk.1.2 (by rw [← hpd]; rw [he] at hp; exact List.mem_map_of_mem hp)) (hf.put hd)) hs
    rw [listedBy_move] at this
    exact this
theorem SdP.sk (i : Nat) (k : SdP P l Q L W n κ is pend fuel (i :: done) ((d, undef) :: fr) cs) (hi : getO l i = some ⟨some d, op, ty, pos, af, g⟩ := by rfl)
    (hd : Nat.blt d n.n = true := by rfl) (hw : wantedF l.toArray fr g false = true := by rfl) (hchk : (chkQs l is done i && !memb d (pend.map (·.d)) && offF fr pend) = true := by kernel_rfl) : SdP P l Q L W n κ is pend (fuel + 1) done fr cs := by
  intro his e he a w hf hs
  simp only [Bool.and_eq_true, Bool.not_eq_true'] at hchk
  have hq := chkQs_at (pend := pend) (by rw [his]; exact hchk.1.1) he
  have hoff : ∀ p ∈ e.map (·.1), look fr p.d = none := fun p hp => offF_mem hchk.2 p (by rw [he] at hp; exact hp)
  have hf0 := Fr.drop hoff hf
  rw [show fuel + 1 + (unex e).length = fuel + (unex e).length + 1 by omega]
  refine Sd.hoist (fun _ => True) (fun _ => True) hi hq (v := undef) (.inr ⟨unwanted_of (o := ⟨some d, op, ty, pos, af, g⟩) hf0 hw, rfl⟩) trivial trivial (fun _ _ _ _ => trivial) (fun _ _ _ _ _ _ _ _ => trivial) ?_
  have := k his e he (a.put (some d) undef) w (Fr.ext (fun p hp hpd => memb_no hchk.1.2 (by rw [← hpd]; rw [he] at hp; exact List.mem_map_of_mem hp)) (hf.put hd)) hs
  rw [listedBy_move] at this
  exact this

def nodB : List Nat → Bool
  | [] => true
  | d :: t => !memb d t && nodB t
theorem nodB_spec : ∀ {L : List Nat}, nodB L = true → L.Nodup := by
  intro L
  induction L with
  | nil => intro _; exact List.nodup_nil
  | cons x t ih =>
    intro h
    simp only [nodB, Bool.and_eq_true, Bool.not_eq_true'] at h
    exact List.nodup_cons.2 ⟨memb_no h.1, ih h.2⟩
theorem exF_mem : ∀ (e : List (Pd × Option Nat)), ∀ x ∈ exF e, x.1 ∈ (e.map (·.1)).map (·.d) := by
  intro e
  induction e with
  | nil => intro x hx; cases hx
  | cons z t iht =>
    obtain ⟨p, o⟩ := z
    intro x hx
    cases o with
    | none => exact List.mem_cons_of_mem _ (iht x hx)
    | some b =>
      rcases List.mem_cons.1 hx with rfl | hx
      · exact List.mem_cons_self ..
      · exact List.mem_cons_of_mem _ (iht x hx)
/-- One that comes, the pending ones having come or not. -/
theorem SdP.nn {K : Value → List HProp → Prop} (i : Nat) {dst : Option Nat} {fr' : Value → List (Nat × Value)} (hi : getO l i = some ⟨dst, op, ty, pos, af, g⟩)
    (hw : wantedF l.toArray fr g true = true) (h : ∀ F : List HProp, OpN P n κ ⟨dst, op, ty, pos, af, g⟩ fr (F ++ cs) fun v c => ∃ cs', K v cs' ∧ c = F ++ cs')
    (hfr : ∀ (F : List (Nat × Value)) a v, (∀ x ∈ F, x.1 ∈ pend.map (·.d)) → Fr n a (F ++ fr) → Fr n (a.put dst v) (F ++ fr' v))
    (hok : Pd.oks P l n κ fr pend) (hWc : WOk cs W)
    (hW : ∀ v cs', K v cs' → WOk cs' W ∨ memb i L = true) (k : ∀ v cs', K v cs' → SdP P l Q L W n κ is pend fuel (i :: done) (fr' v) cs')
    (hchk : (chkR l is done [i] && chkQr l is done i && nodB (pend.map (·.d))) = true) : SdP P l Q L W n κ is pend (fuel + 1) done fr cs := by
  intro his
  simp only [Bool.and_eq_true] at hchk
  have hnd := nodB_spec hchk.2
  have step : ∀ (m : Nat), (m = m - 1 + 1 → ∀ (e : List (Pd × Option Nat)), e.map (·.1) = pend → ∀ a w, Fr n a (exF e ++ fr) → Sat κ w (exC e ++ cs) → (unex e).length = m - 1 → wpM P l.toArray (NoP Q) (Wt L W) (fuel + (m - 1) + 1) (listedBy l.length (exI e ++ done)) a w) →
      ∀ (e : List (Pd × Option Nat)), e.map (·.1) = pend → ∀ a w, Fr n a (exF e ++ fr) → Sat κ w (exC e ++ cs) → (unex e).length = m → wpM P l.toArray (NoP Q) (Wt L W) (fuel + m + 1) (listedBy l.length (exI e ++ done)) a w := by
    intro m ih e he a w hf hs hm
    have hri := chkQr_at (pend := pend) (by rw [his]; exact hchk.1.2) he
    refine ⟨fun h0 => (by rw [h0] at hri; cases hri), fun j hj => ?_⟩
    by_cases hje : j ∈ unex e
    · have hpos : m = m - 1 + 1 := by
        have := List.length_pos_of_mem hje
        omega
      have hc := SdP.come (pend := pend) (Q := Q) (L := L) (W := W) (fuel := fuel + m) (m := m - 1) hok hnd hWc (fun e' he' a' w' hf' hs' hm' => by
        have := ih hpos e' he' a' w' hf' hs' hm'
        rw [show fuel + m = fuel + (m - 1) + 1 by omega]; exact this) he hf hs (by omega) hje
      exact hc
    · rcases chkR_ready (pend := pend) (by rw [his]; exact hchk.1.1) he hj with hjk | hjk
      · obtain rfl : j = i := by simpa using hjk
        have hoff : ∀ p ∈ e.map (·.1), look fr p.d = none := fun p hp => by
          obtain ⟨_, _, _, _, _, _, hh, _⟩ := Pd.oks_mem hok p (by rw [he] at hp; exact hp); exact hh
        have hf0 := Fr.drop hoff hf
        have hi' : l.toArray[j]? = some ⟨dst, op, ty, pos, af, g⟩ := by rw [← getO_eq]; exact hi
        unfold wpOpY
        simp only [hi', wanted_of (o := ⟨dst, op, ty, pos, af, g⟩) hf0 hw, if_true]
        refine h (exC e) a w _ _ hf0 hs fun v c w' ⟨cs', hK, hc⟩ hs' => ?_
        subst hc
        refine ⟨.inr ?_, ?_⟩
        · rcases hW v cs' hK with hh | hh
          · exact fun _ => hold_sub hh hs'
          · exact fun h2 => by rw [hh] at h2; cases h2
        · have hF : ∀ x ∈ exF e, x.1 ∈ pend.map (·.d) := by
            rw [← he]; exact exF_mem e
          have := k v cs' hK his e he _ w' (hfr (exF e) a v hF hf) hs'
          rw [listedBy_move, hm] at this
          exact this
      · exact absurd hjk hje
  have key : ∀ (m : Nat) (e : List (Pd × Option Nat)), e.map (·.1) = pend → ∀ a w, Fr n a (exF e ++ fr) → Sat κ w (exC e ++ cs) → (unex e).length = m →
      wpM P l.toArray (NoP Q) (Wt L W) (fuel + m + 1) (listedBy l.length (exI e ++ done)) a w := by
    intro m
    induction m with
    | zero =>
      intro e he a w hf hs hm
      exact step 0 (fun h => by cases h) e he a w hf hs hm
    | succ m ih =>
      intro e he a w hf hs hm
      exact step (m + 1) (fun h => ih) e he a w hf hs hm
  intro e he a w hf hs
  have := key _ e he a w hf hs rfl
  rw [show fuel + 1 + (unex e).length = fuel + (unex e).length + 1 by omega]
  exact this
/-- Nothing but what is pending can come: now the first one has come. -/
theorem SdP.cm {p : Pd} (k : ∀ b, SdP P l Q L W n κ is pend fuel (p.i :: done) ((p.d, p.V b) :: fr) (pts b p.x :: cs))
    (hok : Pd.oks P l n κ fr (p :: pend)) (hWc : WOk cs W)
    (hchk : (chkQf l (p.i :: is) done && nodB ((p :: pend).map (·.d))) = true) : SdP P l Q L W n κ (p.i :: is) (p :: pend) fuel done fr cs := by
  intro his
  simp only [Bool.and_eq_true] at hchk
  have hnd := nodB_spec hchk.2
  have his' : pend.map (·.i) = is := by simpa using his
  have hp : ∀ m (e' : List (Pd × Option Nat)) b, e'.map (·.1) = pend → ∀ a w, Fr n a (exF ((p, some b) :: e') ++ fr) → Sat κ w (exC ((p, some b) :: e') ++ cs) → (unex e').length = m →
      wpM P l.toArray (NoP Q) (Wt L W) (fuel + m) (listedBy l.length (exI ((p, some b) :: e') ++ done)) a w := by
    intro m e' b he' a w hf hs hm
    have hne : ∀ q ∈ e'.map (·.1), q.d ≠ p.d := by
      intro q hq hqd
      rw [he'] at hq
      have := (List.nodup_cons.1 hnd).1
      exact this (by show p.d ∈ _; rw [← hqd]; exact List.mem_map_of_mem hq)
    have h1 : Fr n a (exF e' ++ (p.d, p.V b) :: fr) := Fr.ext hne hf
    have h2 : Sat κ w (exC e' ++ pts b p.x :: cs) := hs.imp fun g hg => by
      have mv : ∀ (x : List HProp) (c : HProp) (y : List HProp) g, sepL κ (c :: (x ++ y)) g → sepL κ (x ++ c :: y) g := by
        intro x c y
        induction x with
        | nil => intro g h; exact h
        | cons z t iht => intro g h; exact sepL_tail (fun g h => iht g h) (sepL_swap h)
      exact mv (exC e') (pts b p.x) cs g hg
    have := k b his' e' he' a w h1 h2
    rw [listedBy_move, hm] at this
    exact this
  have step : ∀ (m : Nat), (m = m - 1 + 1 → ∀ (e : List (Pd × Option Nat)), e.map (·.1) = p :: pend → ∀ a w, Fr n a (exF e ++ fr) → Sat κ w (exC e ++ cs) → (unex e).length = m - 1 → wpM P l.toArray (NoP Q) (Wt L W) (fuel + (m - 1)) (listedBy l.length (exI e ++ done)) a w) →
      ∀ (e : List (Pd × Option Nat)), e.map (·.1) = p :: pend → ∀ a w, Fr n a (exF e ++ fr) → Sat κ w (exC e ++ cs) → (unex e).length = m → wpM P l.toArray (NoP Q) (Wt L W) (fuel + m) (listedBy l.length (exI e ++ done)) a w := by
    intro m ih e he a w hf hs hm
    cases e with
    | nil => cases he
    | cons z e' =>
      obtain ⟨q, o⟩ := z
      simp only [List.map_cons, List.cons.injEq] at he
      obtain ⟨rfl, he'⟩ := he
      cases o with
      | some b => exact hp m e' b he' a w hf hs (by simpa [unex] using hm)
      | none =>
        have hpos : m = m - 1 + 1 := by simp [unex] at hm; omega
        have hri := chkQf_at (pend := q :: pend) (p := q) (t := pend) rfl (by rw [his]; exact hchk.1) (e := e') he'
        obtain ⟨hri, hrj⟩ := hri
        rw [show fuel + m = fuel + (m - 1) + 1 by omega]
        refine ⟨fun h0 => (by rw [h0] at hri; cases hri), fun j hj => ?_⟩
        have hje : j ∈ unex ((q, none) :: e') := hrj j hj
        exact SdP.come (pend := q :: pend) (Q := Q) (L := L) (W := W) (fuel := fuel + (m - 1)) (m := m - 1) hok hnd hWc (fun e' he' a' w' hf' hs' hm' => ih hpos e' he' a' w' hf' hs' hm') (by simp [he']) hf hs (by omega) hje
  have key : ∀ (m : Nat) (e : List (Pd × Option Nat)), e.map (·.1) = p :: pend → ∀ a w, Fr n a (exF e ++ fr) → Sat κ w (exC e ++ cs) → (unex e).length = m → wpM P l.toArray (NoP Q) (Wt L W) (fuel + m) (listedBy l.length (exI e ++ done)) a w := by
    intro m
    induction m with
    | zero => intro e he a w hf hs hm; exact step 0 (fun h => by cases h) e he a w hf hs hm
    | succ m ih => intro e he a w hf hs hm; exact step (m + 1) (fun h => ih) e he a w hf hs hm
  intro e he a w hf hs
  exact key _ e he a w hf hs rfl
end
end
end Go.Proofs.YtpcechnalfaajaaDoor

/- Steps of a region that draws, rows being pending. PRINTED by wip/gen. -/
namespace Go.Proofs.YtpcechnalfaajaaDoor
open Go
/- What is owned beside other rows. -/
theorem Rd.app {b : Nat} {F cs : List HProp} {r : List Value} (h : Rd b cs r) : Rd b (F ++ cs) r := by
  induction F with
  | nil => exact h
  | cons c t ih => exact .tail
theorem RdAt.app {b o : Nat} {F cs : List HProp} {r : List Value} (h : RdAt b cs o r) : RdAt b (F ++ cs) o r := by
  induction F with
  | nil => exact h
  | cons c t ih => exact .tail
theorem RdS.app {F cs : List HProp} {p : Option Addr} {r : List Value} (h : RdS cs p r) : RdS (F ++ cs) p r := by
  induction F with
  | nil => exact h
  | cons c t ih => exact .tail ih
theorem Wr.app {b : Nat} {F cs : List HProp} {r : List Value} {G : List Value → List HProp} (h : Wr b cs r G) : Wr b (F ++ cs) r (fun r' => F ++ G r') := by
  induction F with
  | nil => exact h
  | cons c t ih => exact .tail (h := ih)
theorem Ob.app {K α : Type} {R : K → α → HProp} {k : K} {F cs : List HProp} {x : α} {G : HProp → List HProp} (h : Ob R k cs x G) : Ob R k (F ++ cs) x (fun y => F ++ G y) := by
  induction F with
  | nil => exact h
  | cons c t ih => exact .tail (h := ih)
section
variable {P : Program} {l : List Oper} {Q : Exit → Act → World → Prop} {L : List Nat} {W : List (Nat × Nat × List Value)} {n : Nd} {κ : Kap} {fuel : Nat} {done : List Nat} {fr : List (Nat × Value)} {cs : List HProp} {is : List Nat} {pend : List Pd}
variable {d : Nat} {op : Op} {ty : TypeId} {pos : String} {af : Array Edge} {g : Option (Nat × Bool)}
variable {T U E S D : TypeId} {x y z u : Operand} {v : Value} {a b : Int} {k j : IntKind}

theorem SdP.mv (i : Nat) (kk : SdP P l Q L W n κ is pend fuel (i :: done) ((d, v) :: fr) cs) (hi : getO l i = some ⟨some d, .move x, ty, pos, af, g⟩ := by rfl) (h : ev fr x = some v := by rfl) (hd : Nat.blt d n.n = true := by rfl) (hw : wantedF l.toArray fr g true = true := by rfl) (hchk : (chkQs l is done i && !memb d (pend.map (·.d)) && offF fr pend) = true := by kernel_rfl) : SdP P l Q L W n κ is pend (fuel + 1) done fr cs := .q i hi (.move h) kk hd hw hchk
theorem SdP.as (i : Nat) (kk : SdP P l Q L W n κ is pend fuel (i :: done) ((d, v) :: fr) cs) (hi : getO l i = some ⟨some d, .assign x, ty, pos, af, g⟩ := by rfl) (h : ev fr x = some v := by rfl) (hd : Nat.blt d n.n = true := by rfl) (hw : wantedF l.toArray fr g true = true := by rfl) (hchk : (chkQs l is done i && !memb d (pend.map (·.d)) && offF fr pend) = true := by kernel_rfl) : SdP P l Q L W n κ is pend (fuel + 1) done fr cs := .q i hi (.assign h) kk hd hw hchk
theorem SdP.nc (i : Nat) {p : Addr} (kk : SdP P l Q L W n κ is pend fuel (i :: done) ((d, .pointer (some p)) :: fr) cs) (hi : getO l i = some ⟨some d, .nilCheck x, ty, pos, af, g⟩ := by rfl) (h : ev fr x = some (.pointer (some p)) := by rfl) (hd : Nat.blt d n.n = true := by rfl) (hw : wantedF l.toArray fr g true = true := by rfl) (hchk : (chkQs l is done i && !memb d (pend.map (·.d)) && offF fr pend) = true := by kernel_rfl) : SdP P l Q L W n κ is pend (fuel + 1) done fr cs := .q i hi (.nilCheck h) kk hd hw hchk
theorem SdP.fa (i : Nat) {f off b o : Nat} (kk : SdP P l Q L W n κ is pend fuel (i :: done) ((d, .pointer (some ⟨b, o + off, none⟩)) :: fr) cs) (hi : getO l i = some ⟨some d, .fieldAddr S x f, ty, pos, af, g⟩ := by rfl) (h : ev fr x = some (.pointer (some ⟨b, o, none⟩)) ∧ Fd P S f off := by refine ⟨rfl, ?_⟩; infer_instance) (hd : Nat.blt d n.n = true := by rfl) (hw : wantedF l.toArray fr g true = true := by rfl) (hchk : (chkQs l is done i && !memb d (pend.map (·.d)) && offF fr pend) = true := by kernel_rfl) : SdP P l Q L W n κ is pend (fuel + 1) done fr cs := .q i hi (have := h.2; .fieldAddr h.1) kk hd hw hchk
theorem SdP.fv (i : Nat) {f off m : Nat} {agg : Bool} {l0 : List Value} (kk : SdP P l Q L W n κ is pend fuel (i :: done) ((d, v) :: fr) cs) (hi : getO l i = some ⟨some d, .field S x f, ty, pos, af, g⟩ := by rfl) (h : ev fr x = some (.agg l0.toArray) ∧ Fv P S f agg off m ∧ getV agg l0 off m = some v := by refine ⟨rfl, ?_, ?_⟩; infer_instance; rfl) (hd : Nat.blt d n.n = true := by rfl) (hw : wantedF l.toArray fr g true = true := by rfl) (hchk : (chkQs l is done i && !memb d (pend.map (·.d)) && offF fr pend) = true := by kernel_rfl) : SdP P l Q L W n κ is pend (fuel + 1) done fr cs := .q i hi (have := h.2.1; .field h.1 h.2.2) kk hd hw hchk
theorem SdP.pt (i : Nat) (kk : SdP P l Q L W n κ is pend fuel (i :: done) ((d, v) :: fr) cs) (hi : getO l i = some ⟨some d, .pick x y z, ty, pos, af, g⟩ := by rfl) (h : ev fr x = some (.bool true) ∧ ev fr y = some v := by exact ⟨rfl, rfl⟩) (hd : Nat.blt d n.n = true := by rfl) (hw : wantedF l.toArray fr g true = true := by rfl) (hchk : (chkQs l is done i && !memb d (pend.map (·.d)) && offF fr pend) = true := by kernel_rfl) : SdP P l Q L W n κ is pend (fuel + 1) done fr cs := .q i hi (.pickT h.1 h.2) kk hd hw hchk
theorem SdP.pf (i : Nat) (kk : SdP P l Q L W n κ is pend fuel (i :: done) ((d, v) :: fr) cs) (hi : getO l i = some ⟨some d, .pick x y z, ty, pos, af, g⟩ := by rfl) (h : ev fr x = some (.bool false) ∧ ev fr z = some v := by exact ⟨rfl, rfl⟩) (hd : Nat.blt d n.n = true := by rfl) (hw : wantedF l.toArray fr g true = true := by rfl) (hchk : (chkQs l is done i && !memb d (pend.map (·.d)) && offF fr pend) = true := by kernel_rfl) : SdP P l Q L W n κ is pend (fuel + 1) done fr cs := .q i hi (.pickF h.1 h.2) kk hd hw hchk
theorem SdP.ex (i : Nat) {i0 : Nat} {l0 : List Value} (kk : SdP P l Q L W n κ is pend fuel (i :: done) ((d, v) :: fr) cs) (hi : getO l i = some ⟨some d, .extract x i0, ty, pos, af, g⟩ := by rfl) (h : ev fr x = some (.tuple l0.toArray) ∧ get1 l0 i0 = some v := by exact ⟨rfl, rfl⟩) (hd : Nat.blt d n.n = true := by rfl) (hw : wantedF l.toArray fr g true = true := by rfl) (hchk : (chkQs l is done i && !memb d (pend.map (·.d)) && offF fr pend) = true := by kernel_rfl) : SdP P l Q L W n κ is pend (fuel + 1) done fr cs := .q i hi (.extract h.1 h.2) kk hd hw hchk
theorem SdP.nt (i : Nat) {b : Bool} (kk : SdP P l Q L W n κ is pend fuel (i :: done) ((d, .bool (!b)) :: fr) cs) (hi : getO l i = some ⟨some d, .unOp .not T x, ty, pos, af, g⟩ := by rfl) (h : ev fr x = some (.bool b) := by rfl) (hd : Nat.blt d n.n = true := by rfl) (hw : wantedF l.toArray fr g true = true := by rfl) (hchk : (chkQs l is done i && !memb d (pend.map (·.d)) && offF fr pend) = true := by kernel_rfl) : SdP P l Q L W n κ is pend (fuel + 1) done fr cs := .q i hi (.not h) kk hd hw hchk
theorem SdP.ad (i : Nat) (kk : SdP P l Q L W n κ is pend fuel (i :: done) ((d, .int .i64 (a + b)) :: fr) cs) (hi : getO l i = some ⟨some d, .binOp .add T x y U, ty, pos, af, g⟩ := by rfl) (h : ev fr x = some (.int .i64 a) ∧ ev fr y = some (.int .i64 b) := by exact ⟨rfl, rfl⟩)
    (hr : -9223372036854775808 ≤ a + b ∧ a + b ≤ 9223372036854775807 := by omega) (hd : Nat.blt d n.n = true := by rfl) (hw : wantedF l.toArray fr g true = true := by rfl) (hchk : (chkQs l is done i && !memb d (pend.map (·.d)) && offF fr pend) = true := by kernel_rfl) : SdP P l Q L W n κ is pend (fuel + 1) done fr cs := by refine .q i hi (.add h.1 h.2) ?_ hd hw hchk; rw [wrap_in hr]; exact kk
theorem SdP.sb (i : Nat) (kk : SdP P l Q L W n κ is pend fuel (i :: done) ((d, .int .i64 (a - b)) :: fr) cs) (hi : getO l i = some ⟨some d, .binOp .sub T x y U, ty, pos, af, g⟩ := by rfl) (h : ev fr x = some (.int .i64 a) ∧ ev fr y = some (.int .i64 b) := by exact ⟨rfl, rfl⟩)
    (hr : -9223372036854775808 ≤ a - b ∧ a - b ≤ 9223372036854775807 := by omega) (hd : Nat.blt d n.n = true := by rfl) (hw : wantedF l.toArray fr g true = true := by rfl) (hchk : (chkQs l is done i && !memb d (pend.map (·.d)) && offF fr pend) = true := by kernel_rfl) : SdP P l Q L W n κ is pend (fuel + 1) done fr cs := by refine .q i hi (.sub h.1 h.2) ?_ hd hw hchk; rw [wrap_in hr]; exact kk
theorem SdP.lt (i : Nat) (kk : SdP P l Q L W n κ is pend fuel (i :: done) ((d, .bool (decide (a < b))) :: fr) cs) (hi : getO l i = some ⟨some d, .binOp .lss T x y U, ty, pos, af, g⟩ := by rfl) (h : ev fr x = some (.int k a) ∧ ev fr y = some (.int k b) := by exact ⟨rfl, rfl⟩) (hd : Nat.blt d n.n = true := by rfl) (hw : wantedF l.toArray fr g true = true := by rfl) (hchk : (chkQs l is done i && !memb d (pend.map (·.d)) && offF fr pend) = true := by kernel_rfl) : SdP P l Q L W n κ is pend (fuel + 1) done fr cs := .q i hi (.lss h.1 h.2) kk hd hw hchk
theorem SdP.le (i : Nat) (kk : SdP P l Q L W n κ is pend fuel (i :: done) ((d, .bool (decide (a ≤ b))) :: fr) cs) (hi : getO l i = some ⟨some d, .binOp .leq T x y U, ty, pos, af, g⟩ := by rfl) (h : ev fr x = some (.int k a) ∧ ev fr y = some (.int k b) := by exact ⟨rfl, rfl⟩) (hd : Nat.blt d n.n = true := by rfl) (hw : wantedF l.toArray fr g true = true := by rfl) (hchk : (chkQs l is done i && !memb d (pend.map (·.d)) && offF fr pend) = true := by kernel_rfl) : SdP P l Q L W n κ is pend (fuel + 1) done fr cs := .q i hi (.leq h.1 h.2) kk hd hw hchk
theorem SdP.gt (i : Nat) (kk : SdP P l Q L W n κ is pend fuel (i :: done) ((d, .bool (decide (b < a))) :: fr) cs) (hi : getO l i = some ⟨some d, .binOp .gtr T x y U, ty, pos, af, g⟩ := by rfl) (h : ev fr x = some (.int k a) ∧ ev fr y = some (.int k b) := by exact ⟨rfl, rfl⟩) (hd : Nat.blt d n.n = true := by rfl) (hw : wantedF l.toArray fr g true = true := by rfl) (hchk : (chkQs l is done i && !memb d (pend.map (·.d)) && offF fr pend) = true := by kernel_rfl) : SdP P l Q L W n κ is pend (fuel + 1) done fr cs := .q i hi (.gtr h.1 h.2) kk hd hw hchk
theorem SdP.ge (i : Nat) (kk : SdP P l Q L W n κ is pend fuel (i :: done) ((d, .bool (decide (b ≤ a))) :: fr) cs) (hi : getO l i = some ⟨some d, .binOp .geq T x y U, ty, pos, af, g⟩ := by rfl) (h : ev fr x = some (.int k a) ∧ ev fr y = some (.int k b) := by exact ⟨rfl, rfl⟩) (hd : Nat.blt d n.n = true := by rfl) (hw : wantedF l.toArray fr g true = true := by rfl) (hchk : (chkQs l is done i && !memb d (pend.map (·.d)) && offF fr pend) = true := by kernel_rfl) : SdP P l Q L W n κ is pend (fuel + 1) done fr cs := .q i hi (.geq h.1 h.2) kk hd hw hchk
theorem SdP.eq (i : Nat) (kk : SdP P l Q L W n κ is pend fuel (i :: done) ((d, .bool (decide (a = b))) :: fr) cs) (hi : getO l i = some ⟨some d, .binOp .eql T x y U, ty, pos, af, g⟩ := by rfl) (h : ev fr x = some (.int k a) ∧ ev fr y = some (.int k b) := by exact ⟨rfl, rfl⟩) (hd : Nat.blt d n.n = true := by rfl) (hw : wantedF l.toArray fr g true = true := by rfl) (hchk : (chkQs l is done i && !memb d (pend.map (·.d)) && offF fr pend) = true := by kernel_rfl) : SdP P l Q L W n κ is pend (fuel + 1) done fr cs := .q i hi (.eql h.1 h.2) kk hd hw hchk
theorem SdP.ne (i : Nat) (kk : SdP P l Q L W n κ is pend fuel (i :: done) ((d, .bool (decide (a ≠ b))) :: fr) cs) (hi : getO l i = some ⟨some d, .binOp .neq T x y U, ty, pos, af, g⟩ := by rfl) (h : ev fr x = some (.int k a) ∧ ev fr y = some (.int k b) := by exact ⟨rfl, rfl⟩) (hd : Nat.blt d n.n = true := by rfl) (hw : wantedF l.toArray fr g true = true := by rfl) (hchk : (chkQs l is done i && !memb d (pend.map (·.d)) && offF fr pend) = true := by kernel_rfl) : SdP P l Q L W n κ is pend (fuel + 1) done fr cs := .q i hi (.neq h.1 h.2) kk hd hw hchk
theorem SdP.ln (i : Nat) {m by_ len cap : Nat} {p : Option Addr} (kk : SdP P l Q L W n κ is pend fuel (i :: done) ((d, .int .i64 len) :: fr) cs) (hi : getO l i = some ⟨some d, .call ⟨.builtin .len, #[x], #[T]⟩, ty, pos, af, g⟩ := by rfl) (h : ev fr x = some (.slice p len cap) ∧ Sl P T E m by_ := by refine ⟨rfl, ?_⟩; infer_instance) (hd : Nat.blt d n.n = true := by rfl) (hw : wantedF l.toArray fr g true = true := by rfl) (hchk : (chkQs l is done i && !memb d (pend.map (·.d)) && offF fr pend) = true := by kernel_rfl) : SdP P l Q L W n κ is pend (fuel + 1) done fr cs := .q i hi (have := h.2; .len (T := T) h.1 rfl) kk hd hw hchk
theorem SdP.ix (i : Nat) {m by_ b o len cap : Nat} (kk : SdP P l Q L W n κ is pend fuel (i :: done) ((d, .pointer (some ⟨b, o + a.toNat * m, none⟩)) :: fr) cs) (hi : getO l i = some ⟨some d, .indexAddr T x y, ty, pos, af, g⟩ := by rfl) (h : ev fr x = some (.slice (some ⟨b, o, none⟩) len cap) ∧ ev fr y = some (.int k a) ∧ Sl P T E m by_ := by refine ⟨rfl, rfl, ?_⟩; infer_instance) (hz : 0 ≤ a ∧ a < len := by omega) (hd : Nat.blt d n.n = true := by rfl) (hw : wantedF l.toArray fr g true = true := by rfl) (hchk : (chkQs l is done i && !memb d (pend.map (·.d)) && offF fr pend) = true := by kernel_rfl) : SdP P l Q L W n κ is pend (fuel + 1) done fr cs := .q i hi (have := h.2.2; .idx h.1 h.2.1 hz) kk hd hw hchk
theorem SdP.ixa (i : Nat) {m b o len : Nat} (kk : SdP P l Q L W n κ is pend fuel (i :: done) ((d, .pointer (some ⟨b, o + a.toNat * m, none⟩)) :: fr) cs) (hi : getO l i = some ⟨some d, .indexAddr T x y, ty, pos, af, g⟩ := by rfl) (h : ev fr x = some (.pointer (some ⟨b, o, none⟩)) ∧ ev fr y = some (.int k a) ∧ Ar P T len E m := by refine ⟨rfl, rfl, ?_⟩; infer_instance) (hz : 0 ≤ a ∧ a < len := by omega) (hd : Nat.blt d n.n = true := by rfl) (hw : wantedF l.toArray fr g true = true := by rfl) (hchk : (chkQs l is done i && !memb d (pend.map (·.d)) && offF fr pend) = true := by kernel_rfl) : SdP P l Q L W n κ is pend (fuel + 1) done fr cs := .q i hi (have := h.2.2; .idxA h.1 h.2.1 hz) kk hd hw hchk
theorem SdP.bd (i : Nat) {T : TypeId} {xs : List (Nat × Operand)} {vs : List (Nat × Value)} {z r : List Value} {pl : List (Nat × Nat)} (kk : SdP P l Q L W n κ is pend fuel (i :: done) ((d, .agg r.toArray) :: fr) cs) (hi : getO l i = some ⟨some d, .build T xs.toArray, ty, pos, af, g⟩ := by rfl) (h : Zr P T z ∧ Bd P T pl ∧ evp fr xs = some vs ∧ bld z pl vs = some r := by refine ⟨?_, ?_, ?_, ?_⟩; infer_instance; infer_instance; rfl; rfl) (hd : Nat.blt d n.n = true := by rfl) (hw : wantedF l.toArray fr g true = true := by rfl) (hchk : (chkQs l is done i && !memb d (pend.map (·.d)) && offF fr pend) = true := by kernel_rfl) : SdP P l Q L W n κ is pend (fuel + 1) done fr cs := .q i hi (have := h.1; have := h.2.1; .build h.2.2.1 h.2.2.2) kk hd hw hchk
theorem SdP.bz (i : Nat) {T : TypeId} {z : List Value} {pl : List (Nat × Nat)} (kk : SdP P l Q L W n κ is pend fuel (i :: done) ((d, .agg z.toArray) :: fr) cs) (hi : getO l i = some ⟨some d, .build T #[], ty, pos, af, g⟩ := by rfl) (h : Zr P T z ∧ Bd P T pl := by refine ⟨?_, ?_⟩; infer_instance; infer_instance) (hd : Nat.blt d n.n = true := by rfl) (hw : wantedF l.toArray fr g true = true := by rfl) (hchk : (chkQs l is done i && !memb d (pend.map (·.d)) && offF fr pend) = true := by kernel_rfl) : SdP P l Q L W n κ is pend (fuel + 1) done fr cs := .q i hi (have := h.1; have := h.2; OpQ.build (xs := []) (vs := []) rfl rfl) kk hd hw hchk
theorem SdP.a64 (i : Nat) {f : FuncId} {xs : List Operand} {ts : Array TypeId} {x y c : Int} [h64 : A64 P f]
    (kk : SdP P l Q L W n κ is pend fuel (i :: done) ((d, .tuple [.int .u64 ((x + y + c) % 18446744073709551616), .int .u64 ((x + y + c) / 18446744073709551616)].toArray) :: fr) cs) (hi : getO l i = some ⟨some d, .call ⟨.value (.func f), xs.toArray, ts⟩, ty, pos, af, g⟩ := by rfl) (hx : evs fr xs = some [.int .u64 x, .int .u64 y, .int .u64 c] := by rfl) (hr : 0 ≤ x ∧ 0 ≤ y ∧ 0 ≤ c ∧ c ≤ 1 := by omega) (hd : Nat.blt d n.n = true := by rfl) (hw : wantedF l.toArray fr g true = true := by rfl) (hchk : (chkQs l is done i && !memb d (pend.map (·.d)) && offF fr pend) = true := by kernel_rfl) : SdP P l Q L W n κ is pend (fuel + 1) done fr cs := .q i hi (.fn hx fun w => h64.run x y c w hr.1 hr.2.1 hr.2.2.1 hr.2.2.2) kk hd hw hchk
theorem SdP.s64 (i : Nat) {f : FuncId} {xs : List Operand} {ts : Array TypeId} {x y c : Int} [h64 : S64 P f]
    (kk : SdP P l Q L W n κ is pend fuel (i :: done) ((d, .tuple [.int .u64 ((x - y - c) % 18446744073709551616), .int .u64 (if x < y + c then 1 else 0)].toArray) :: fr) cs) (hi : getO l i = some ⟨some d, .call ⟨.value (.func f), xs.toArray, ts⟩, ty, pos, af, g⟩ := by rfl) (hx : evs fr xs = some [.int .u64 x, .int .u64 y, .int .u64 c] := by rfl) (hr : 0 ≤ x ∧ 0 ≤ y ∧ y < 18446744073709551616 ∧ 0 ≤ c ∧ c ≤ 1 := by omega) (hd : Nat.blt d n.n = true := by rfl) (hw : wantedF l.toArray fr g true = true := by rfl) (hchk : (chkQs l is done i && !memb d (pend.map (·.d)) && offF fr pend) = true := by kernel_rfl) : SdP P l Q L W n κ is pend (fuel + 1) done fr cs := .q i hi (.fn hx fun w => h64.run x y c w hr.1 hr.2.1 hr.2.2.1 hr.2.2.2.1 hr.2.2.2.2) kk hd hw hchk
theorem SdP.ld {b0 o m : Nat} {agg : Bool} {r : List Value} (i : Nat) (kk : SdP P l Q L W n κ is pend fuel (i :: done) ((d, v) :: fr) cs) (hi : getO l i = some ⟨some d, .load T x, ty, pos, af, g⟩ := by rfl)
    (h : ev fr x = some (.pointer (some ⟨b0, o, none⟩)) ∧ Rd b0 cs r ∧ Ty P T agg m ∧ Nat.blt 0 m = true ∧ getV agg r o m = some v ∧ (b0, 0, r) ∈ W := by
      refine ⟨rfl, ?_, ?_, ?_, ?_, ?_⟩; infer_instance; infer_instance; rfl; rfl; first | exact .head _ | exact .tail _ (.head _) | exact .tail _ (.tail _ (.head _)) | exact .tail _ (.tail _ (.tail _ (.head _))) | exact .tail _ (.tail _ (.tail _ (.tail _ (.head _)))))
    (hd : Nat.blt d n.n = true := by rfl) (hw : wantedF l.toArray fr g true = true := by rfl) (hchk : (chkLs l is done L i && !memb d (pend.map (·.d)) && offF fr pend) = true := by kernel_rfl) : SdP P l Q L W n κ is pend (fuel + 1) done fr cs :=
  have := h.2.1; have := h.2.2.1
  .a i hi h.2.2.2.2.2 (.load (o := 0) (k := o) (by rw [Nat.zero_add]; exact h.1) h.2.2.2.1 h.2.2.2.2.1) kk hd hw hchk
theorem SdP.ldw {b0 m : Nat} {r : List Value} (i : Nat) (kk : SdP P l Q L W n κ is pend fuel (i :: done) ((d, .agg r.toArray) :: fr) cs) (hi : getO l i = some ⟨some d, .load T x, ty, pos, af, g⟩ := by rfl)
    (h : ev fr x = some (.pointer (some ⟨b0, 0, none⟩)) ∧ Rd b0 cs r ∧ Ty P T true m ∧ Nat.blt 0 m = true ∧ r.length = m ∧ (b0, 0, r) ∈ W := by
      refine ⟨rfl, ?_, ?_, ?_, ?_, ?_⟩; infer_instance; infer_instance; rfl; rfl; first | exact .head _ | exact .tail _ (.head _) | exact .tail _ (.tail _ (.head _)) | exact .tail _ (.tail _ (.tail _ (.head _))) | exact .tail _ (.tail _ (.tail _ (.tail _ (.head _)))))
    (hd : Nat.blt d n.n = true := by rfl) (hw : wantedF l.toArray fr g true = true := by rfl) (hchk : (chkLs l is done L i && !memb d (pend.map (·.d)) && offF fr pend) = true := by kernel_rfl) : SdP P l Q L W n κ is pend (fuel + 1) done fr cs :=
  have := h.2.1; have := h.2.2.1
  .a i hi h.2.2.2.2.2 (.load (o := 0) (k := 0) h.1 h.2.2.2.1 (by
    have e : ∀ (l : List Value), takeF l.length l = some l := by
      intro l; induction l with
      | nil => rfl
      | cons x t ih => simp [takeF, ih]
    simp [getV, getN, ← h.2.2.2.2.1, e])) kk hd hw hchk
theorem SdP.lx {b0 o t m : Nat} {agg : Bool} {r : List Value} (i : Nat) (hv : getV agg r t m = some v) (kk : SdP P l Q L W n κ is pend fuel (i :: done) ((d, v) :: fr) cs) (hi : getO l i = some ⟨some d, .load T x, ty, pos, af, g⟩ := by rfl)
    (h : ev fr x = some (.pointer (some ⟨b0, o + t, none⟩)) ∧ RdAt b0 cs o r ∧ Ty P T agg m ∧ Nat.blt 0 m = true ∧ (b0, o, r) ∈ W := by
      refine ⟨rfl, ?_, ?_, ?_, ?_⟩; infer_instance; infer_instance; rfl; first | exact .head _ | exact .tail _ (.head _) | exact .tail _ (.tail _ (.head _)) | exact .tail _ (.tail _ (.tail _ (.head _))) | exact .tail _ (.tail _ (.tail _ (.tail _ (.head _)))))
    (hd : Nat.blt d n.n = true := by rfl) (hw : wantedF l.toArray fr g true = true := by rfl) (hchk : (chkLs l is done L i && !memb d (pend.map (·.d)) && offF fr pend) = true := by kernel_rfl) : SdP P l Q L W n κ is pend (fuel + 1) done fr cs :=
  have := h.2.1; have := h.2.2.1
  .a i hi h.2.2.2.2 (.load h.1 h.2.2.2.1 hv) kk hd hw hchk
theorem SdP.an  (i : Nat) (kk : SdP P l Q L W n κ is pend fuel (i :: done) ((d, .int k (bandK k a b)) :: fr) cs) (hi : getO l i = some ⟨some d, .binOp .and T x y U, ty, pos, af, g⟩ := by rfl) (h : ev fr x = some (.int k a) ∧ ev fr y = some (.int k b) := by exact ⟨rfl, rfl⟩) (hd : Nat.blt d n.n = true := by rfl) (hw : wantedF l.toArray fr g true = true := by rfl) (hchk : (chkQs l is done i && !memb d (pend.map (·.d)) && offF fr pend) = true := by kernel_rfl) : SdP P l Q L W n κ is pend (fuel + 1) done fr cs := .q i hi (OpQ.and h.1 h.2) kk hd hw hchk
theorem SdP.or  (i : Nat) (kk : SdP P l Q L W n κ is pend fuel (i :: done) ((d, .int k (borK k a b)) :: fr) cs) (hi : getO l i = some ⟨some d, .binOp .or T x y U, ty, pos, af, g⟩ := by rfl) (h : ev fr x = some (.int k a) ∧ ev fr y = some (.int k b) := by exact ⟨rfl, rfl⟩) (hd : Nat.blt d n.n = true := by rfl) (hw : wantedF l.toArray fr g true = true := by rfl) (hchk : (chkQs l is done i && !memb d (pend.map (·.d)) && offF fr pend) = true := by kernel_rfl) : SdP P l Q L W n κ is pend (fuel + 1) done fr cs := .q i hi (OpQ.or h.1 h.2) kk hd hw hchk
theorem SdP.xo  (i : Nat) (kk : SdP P l Q L W n κ is pend fuel (i :: done) ((d, .int k (bxorK k a b)) :: fr) cs) (hi : getO l i = some ⟨some d, .binOp .xor T x y U, ty, pos, af, g⟩ := by rfl) (h : ev fr x = some (.int k a) ∧ ev fr y = some (.int k b) := by exact ⟨rfl, rfl⟩) (hd : Nat.blt d n.n = true := by rfl) (hw : wantedF l.toArray fr g true = true := by rfl) (hchk : (chkQs l is done i && !memb d (pend.map (·.d)) && offF fr pend) = true := by kernel_rfl) : SdP P l Q L W n κ is pend (fuel + 1) done fr cs := .q i hi (OpQ.xor h.1 h.2) kk hd hw hchk
theorem SdP.ano  (i : Nat) (kk : SdP P l Q L W n κ is pend fuel (i :: done) ((d, .int k (bclrK k a b)) :: fr) cs) (hi : getO l i = some ⟨some d, .binOp .andNot T x y U, ty, pos, af, g⟩ := by rfl) (h : ev fr x = some (.int k a) ∧ ev fr y = some (.int k b) := by exact ⟨rfl, rfl⟩) (hd : Nat.blt d n.n = true := by rfl) (hw : wantedF l.toArray fr g true = true := by rfl) (hchk : (chkQs l is done i && !memb d (pend.map (·.d)) && offF fr pend) = true := by kernel_rfl) : SdP P l Q L W n κ is pend (fuel + 1) done fr cs := .q i hi (OpQ.andNot h.1 h.2) kk hd hw hchk
theorem SdP.cpl (i : Nat) (kk : SdP P l Q L W n κ is pend fuel (i :: done) ((d, .int k (cplK k a)) :: fr) cs) (hi : getO l i = some ⟨some d, .unOp .xor T x, ty, pos, af, g⟩ := by rfl) (h : ev fr x = some (.int k a) := by rfl) (hd : Nat.blt d n.n = true := by rfl) (hw : wantedF l.toArray fr g true = true := by rfl) (hchk : (chkQs l is done i && !memb d (pend.map (·.d)) && offF fr pend) = true := by kernel_rfl) : SdP P l Q L W n κ is pend (fuel + 1) done fr cs := .q i hi (OpQ.cpl h) kk hd hw hchk
theorem SdP.adw  (i : Nat) (kk : SdP P l Q L W n κ is pend fuel (i :: done) ((d, .int k (addK k a b)) :: fr) cs) (hi : getO l i = some ⟨some d, .binOp .add T x y U, ty, pos, af, g⟩ := by rfl) (h : ev fr x = some (.int k a) ∧ ev fr y = some (.int k b) := by exact ⟨rfl, rfl⟩) (hd : Nat.blt d n.n = true := by rfl) (hw : wantedF l.toArray fr g true = true := by rfl) (hchk : (chkQs l is done i && !memb d (pend.map (·.d)) && offF fr pend) = true := by kernel_rfl) : SdP P l Q L W n κ is pend (fuel + 1) done fr cs := .q i hi (OpQ.add h.1 h.2) kk hd hw hchk
theorem SdP.sbw  (i : Nat) (kk : SdP P l Q L W n κ is pend fuel (i :: done) ((d, .int k (subK k a b)) :: fr) cs) (hi : getO l i = some ⟨some d, .binOp .sub T x y U, ty, pos, af, g⟩ := by rfl) (h : ev fr x = some (.int k a) ∧ ev fr y = some (.int k b) := by exact ⟨rfl, rfl⟩) (hd : Nat.blt d n.n = true := by rfl) (hw : wantedF l.toArray fr g true = true := by rfl) (hchk : (chkQs l is done i && !memb d (pend.map (·.d)) && offF fr pend) = true := by kernel_rfl) : SdP P l Q L W n κ is pend (fuel + 1) done fr cs := .q i hi (OpQ.sub h.1 h.2) kk hd hw hchk
theorem SdP.ml  (i : Nat) (kk : SdP P l Q L W n κ is pend fuel (i :: done) ((d, .int k (mulK k a b)) :: fr) cs) (hi : getO l i = some ⟨some d, .binOp .mul T x y U, ty, pos, af, g⟩ := by rfl) (h : ev fr x = some (.int k a) ∧ ev fr y = some (.int k b) := by exact ⟨rfl, rfl⟩) (hd : Nat.blt d n.n = true := by rfl) (hw : wantedF l.toArray fr g true = true := by rfl) (hchk : (chkQs l is done i && !memb d (pend.map (·.d)) && offF fr pend) = true := by kernel_rfl) : SdP P l Q L W n κ is pend (fuel + 1) done fr cs := .q i hi (OpQ.mul h.1 h.2) kk hd hw hchk
theorem SdP.shr  (i : Nat) (kk : SdP P l Q L W n κ is pend fuel (i :: done) ((d, .int k (shrK k a b)) :: fr) cs) (hi : getO l i = some ⟨some d, .binOp .shr T x y U, ty, pos, af, g⟩ := by rfl) (h : ev fr x = some (.int k a) ∧ ev fr y = some (.int j b) := by exact ⟨rfl, rfl⟩) (hb : 0 ≤ b := by omega) (hd : Nat.blt d n.n = true := by rfl) (hw : wantedF l.toArray fr g true = true := by rfl) (hchk : (chkQs l is done i && !memb d (pend.map (·.d)) && offF fr pend) = true := by kernel_rfl) : SdP P l Q L W n κ is pend (fuel + 1) done fr cs := .q i hi (.shr h.1 h.2 hb) kk hd hw hchk
theorem SdP.shl  (i : Nat) (kk : SdP P l Q L W n κ is pend fuel (i :: done) ((d, .int k (shlK k a b)) :: fr) cs) (hi : getO l i = some ⟨some d, .binOp .shl T x y U, ty, pos, af, g⟩ := by rfl) (h : ev fr x = some (.int k a) ∧ ev fr y = some (.int j b) := by exact ⟨rfl, rfl⟩) (hb : 0 ≤ b := by omega) (hd : Nat.blt d n.n = true := by rfl) (hw : wantedF l.toArray fr g true = true := by rfl) (hchk : (chkQs l is done i && !memb d (pend.map (·.d)) && offF fr pend) = true := by kernel_rfl) : SdP P l Q L W n κ is pend (fuel + 1) done fr cs := .q i hi (.shl h.1 h.2 hb) kk hd hw hchk
theorem SdP.quo  (i : Nat) (kk : SdP P l Q L W n κ is pend fuel (i :: done) ((d, .int k (k.wrap (a.tdiv b))) :: fr) cs) (hi : getO l i = some ⟨some d, .binOp .quo T x y U, ty, pos, af, g⟩ := by rfl) (h : ev fr x = some (.int k a) ∧ ev fr y = some (.int k b) := by exact ⟨rfl, rfl⟩) (hb : b ≠ 0 := by omega) (hd : Nat.blt d n.n = true := by rfl) (hw : wantedF l.toArray fr g true = true := by rfl) (hchk : (chkQs l is done i && !memb d (pend.map (·.d)) && offF fr pend) = true := by kernel_rfl) : SdP P l Q L W n κ is pend (fuel + 1) done fr cs := .q i hi (.quo h.1 h.2 hb) kk hd hw hchk
theorem SdP.rem  (i : Nat) (kk : SdP P l Q L W n κ is pend fuel (i :: done) ((d, .int k (a.tmod b)) :: fr) cs) (hi : getO l i = some ⟨some d, .binOp .rem T x y U, ty, pos, af, g⟩ := by rfl) (h : ev fr x = some (.int k a) ∧ ev fr y = some (.int k b) := by exact ⟨rfl, rfl⟩) (hb : b ≠ 0 := by omega) (hd : Nat.blt d n.n = true := by rfl) (hw : wantedF l.toArray fr g true = true := by rfl) (hchk : (chkQs l is done i && !memb d (pend.map (·.d)) && offF fr pend) = true := by kernel_rfl) : SdP P l Q L W n κ is pend (fuel + 1) done fr cs := .q i hi (.rem h.1 h.2 hb) kk hd hw hchk
theorem SdP.cv  (i : Nat) (kk : SdP P l Q L W n κ is pend fuel (i :: done) ((d, .int k (k.wrap a)) :: fr) cs) (hi : getO l i = some ⟨some d, .convert S D x, ty, pos, af, g⟩ := by rfl) (h : ev fr x = some (.int j a) ∧ Cv P S D k := by refine ⟨rfl, ?_⟩; infer_instance) (hd : Nat.blt d n.n = true := by rfl) (hw : wantedF l.toArray fr g true = true := by rfl) (hchk : (chkQs l is done i && !memb d (pend.map (·.d)) && offF fr pend) = true := by kernel_rfl) : SdP P l Q L W n κ is pend (fuel + 1) done fr cs := .q i hi (have := h.2; .conv h.1) kk hd hw hchk
theorem SdP.eqs {m : Nat} {xs ys : List Value} (i : Nat) (kk : SdP P l Q L W n κ is pend fuel (i :: done) ((d, .bool (rowEq xs ys)) :: fr) cs) (hi : getO l i = some ⟨some d, .binOp .eql T x y U, ty, pos, af, g⟩ := by rfl) (h : ev fr x = some (.agg xs.toArray) ∧ ev fr y = some (.agg ys.toArray) ∧ EqT P T m ∧ (xs.length = m ∧ fitT P 20 T xs = true) ∧ (ys.length = m ∧ fitT P 20 T ys = true) := by refine ⟨rfl, rfl, ?_, ⟨?_, ?_⟩, ⟨?_, ?_⟩⟩; infer_instance; (first | rfl | simp); kernel_rfl; (first | rfl | simp); kernel_rfl) (hd : Nat.blt d n.n = true := by rfl) (hw : wantedF l.toArray fr g true = true := by rfl) (hchk : (chkQs l is done i && !memb d (pend.map (·.d)) && offF fr pend) = true := by kernel_rfl) : SdP P l Q L W n κ is pend (fuel + 1) done fr cs := .q i hi (have := h.2.2.1; .eqs h.1 h.2.1 h.2.2.2.1 h.2.2.2.2) kk hd hw hchk
theorem SdP.nes {m : Nat} {xs ys : List Value} (i : Nat) (kk : SdP P l Q L W n κ is pend fuel (i :: done) ((d, .bool (!rowEq xs ys)) :: fr) cs) (hi : getO l i = some ⟨some d, .binOp .neq T x y U, ty, pos, af, g⟩ := by rfl) (h : ev fr x = some (.agg xs.toArray) ∧ ev fr y = some (.agg ys.toArray) ∧ EqT P T m ∧ (xs.length = m ∧ fitT P 20 T xs = true) ∧ (ys.length = m ∧ fitT P 20 T ys = true) := by refine ⟨rfl, rfl, ?_, ⟨?_, ?_⟩, ⟨?_, ?_⟩⟩; infer_instance; (first | rfl | simp); kernel_rfl; (first | rfl | simp); kernel_rfl) (hd : Nat.blt d n.n = true := by rfl) (hw : wantedF l.toArray fr g true = true := by rfl) (hchk : (chkQs l is done i && !memb d (pend.map (·.d)) && offF fr pend) = true := by kernel_rfl) : SdP P l Q L W n κ is pend (fuel + 1) done fr cs := .q i hi (have := h.2.2.1; .nes h.1 h.2.1 h.2.2.2.1 h.2.2.2.2) kk hd hw hchk
theorem SdP.eqt {m : Nat} (xs ys : List Value) {r : Bool} (hr : rowEq xs ys = r) (h1 : (xs.length = m ∧ fitT P 20 T xs = true) ∧ (ys.length = m ∧ fitT P 20 T ys = true)) (i : Nat) (kk : SdP P l Q L W n κ is pend fuel (i :: done) ((d, .bool r) :: fr) cs) (hi : getO l i = some ⟨some d, .binOp .eql T x y U, ty, pos, af, g⟩ := by rfl) (h : ev fr x = some (.agg xs.toArray) ∧ ev fr y = some (.agg ys.toArray) ∧ EqT P T m := by refine ⟨rfl, rfl, ?_⟩; infer_instance) (hd : Nat.blt d n.n = true := by rfl) (hw : wantedF l.toArray fr g true = true := by rfl) (hchk : (chkQs l is done i && !memb d (pend.map (·.d)) && offF fr pend) = true := by kernel_rfl) : SdP P l Q L W n κ is pend (fuel + 1) done fr cs := .q i hi (have := h.2.2; by rw [← hr]; exact .eqs h.1 h.2.1 h1.1 h1.2) kk hd hw hchk
theorem SdP.net {m : Nat} (xs ys : List Value) {r : Bool} (hr : (!rowEq xs ys) = r) (h1 : (xs.length = m ∧ fitT P 20 T xs = true) ∧ (ys.length = m ∧ fitT P 20 T ys = true)) (i : Nat) (kk : SdP P l Q L W n κ is pend fuel (i :: done) ((d, .bool r) :: fr) cs) (hi : getO l i = some ⟨some d, .binOp .neq T x y U, ty, pos, af, g⟩ := by rfl) (h : ev fr x = some (.agg xs.toArray) ∧ ev fr y = some (.agg ys.toArray) ∧ EqT P T m := by refine ⟨rfl, rfl, ?_⟩; infer_instance) (hd : Nat.blt d n.n = true := by rfl) (hw : wantedF l.toArray fr g true = true := by rfl) (hchk : (chkQs l is done i && !memb d (pend.map (·.d)) && offF fr pend) = true := by kernel_rfl) : SdP P l Q L W n κ is pend (fuel + 1) done fr cs := .q i hi (have := h.2.2; by rw [← hr]; exact .nes h.1 h.2.1 h1.1 h1.2) kk hd hw hchk
theorem SdP.nl {p : Option Addr} {len cap : Nat} (i : Nat) (kk : SdP P l Q L W n κ is pend fuel (i :: done) ((d, .bool p.isNone) :: fr) cs) (hi : getO l i = some ⟨some d, .binOp .eql T x y U, ty, pos, af, g⟩ := by rfl) (h : ev fr x = some (.slice p len cap) ∧ ev fr y = some (.slice none 0 0) ∧ Sn P T := by refine ⟨rfl, rfl, ?_⟩; infer_instance) (hd : Nat.blt d n.n = true := by rfl) (hw : wantedF l.toArray fr g true = true := by rfl) (hchk : (chkQs l is done i && !memb d (pend.map (·.d)) && offF fr pend) = true := by kernel_rfl) : SdP P l Q L W n κ is pend (fuel + 1) done fr cs := .q i hi (have := h.2.2; .eqNil h.1 h.2.1) kk hd hw hchk
theorem SdP.nnl {p : Option Addr} {len cap : Nat} (i : Nat) (kk : SdP P l Q L W n κ is pend fuel (i :: done) ((d, .bool (!p.isNone)) :: fr) cs) (hi : getO l i = some ⟨some d, .binOp .neq T x y U, ty, pos, af, g⟩ := by rfl) (h : ev fr x = some (.slice p len cap) ∧ ev fr y = some (.slice none 0 0) ∧ Sn P T := by refine ⟨rfl, rfl, ?_⟩; infer_instance) (hd : Nat.blt d n.n = true := by rfl) (hw : wantedF l.toArray fr g true = true := by rfl) (hchk : (chkQs l is done i && !memb d (pend.map (·.d)) && offF fr pend) = true := by kernel_rfl) : SdP P l Q L W n κ is pend (fuel + 1) done fr cs := .q i hi (have := h.2.2; .neNil h.1 h.2.1) kk hd hw hchk
theorem SdP.pnl {p : Option Addr} (i : Nat) (kk : SdP P l Q L W n κ is pend fuel (i :: done) ((d, .bool p.isNone) :: fr) cs) (hi : getO l i = some ⟨some d, .binOp .eql T x y U, ty, pos, af, g⟩ := by rfl) (h : ev fr x = some (.pointer p) ∧ ev fr y = some (.pointer none) ∧ Pn P T := by refine ⟨rfl, rfl, ?_⟩; infer_instance) (hd : Nat.blt d n.n = true := by rfl) (hw : wantedF l.toArray fr g true = true := by rfl) (hchk : (chkQs l is done i && !memb d (pend.map (·.d)) && offF fr pend) = true := by kernel_rfl) : SdP P l Q L W n κ is pend (fuel + 1) done fr cs := .q i hi (have := h.2.2; .eqPNil h.1 h.2.1) kk hd hw hchk
theorem SdP.pnn {p : Option Addr} (i : Nat) (kk : SdP P l Q L W n κ is pend fuel (i :: done) ((d, .bool (!p.isNone)) :: fr) cs) (hi : getO l i = some ⟨some d, .binOp .neq T x y U, ty, pos, af, g⟩ := by rfl) (h : ev fr x = some (.pointer p) ∧ ev fr y = some (.pointer none) ∧ Pn P T := by refine ⟨rfl, rfl, ?_⟩; infer_instance) (hd : Nat.blt d n.n = true := by rfl) (hw : wantedF l.toArray fr g true = true := by rfl) (hchk : (chkQs l is done i && !memb d (pend.map (·.d)) && offF fr pend) = true := by kernel_rfl) : SdP P l Q L W n κ is pend (fuel + 1) done fr cs := .q i hi (have := h.2.2; .nePNil h.1 h.2.1) kk hd hw hchk
theorem SdP.mf {fn : Fn} {fi ca : List Operand} {v1 v2 : List Value} (i : Nat) (kk : SdP P l Q L W n κ is pend fuel (i :: done) ((d, .func fn v1.toArray v2.toArray) :: fr) cs) (hi : getO l i = some ⟨some d, .makeFunc fn fi.toArray ca.toArray, ty, pos, af, g⟩ := by rfl) (h : evs fr fi = some v1 ∧ evs fr ca = some v2 := by exact ⟨rfl, rfl⟩) (hd : Nat.blt d n.n = true := by rfl) (hw : wantedF l.toArray fr g true = true := by rfl) (hchk : (chkQs l is done i && !memb d (pend.map (·.d)) && offF fr pend) = true := by kernel_rfl) : SdP P l Q L W n κ is pend (fuel + 1) done fr cs := .q i hi (.makeFunc h.1 h.2) kk hd hw hchk
theorem SdP.slc {E : TypeId} {m by_ : Nat} {lo hi0 : Option Operand} {p : Option Addr} {len cap : Nat} (lw hg : Nat) (i : Nat) (kk : SdP P l Q L W n κ is pend fuel (i :: done) ((d, .slice (if cap = lw then p else p.map (·.add (lw * m))) (hg - lw) (cap - lw)) :: fr) cs) (hi : getO l i = some ⟨some d, .slice T x lo hi0 none, ty, pos, af, g⟩ := by rfl) (h : ev fr x = some (.slice p len cap) ∧ Sl P T E m by_ := by refine ⟨rfl, ?_⟩; infer_instance) (hl : Bnd fr 0 lo lw := by first | rfl | exact ⟨_, _, rfl, by omega, by omega⟩) (hh : Bnd fr len hi0 hg := by first | rfl | exact ⟨_, _, rfl, by omega, by omega⟩) (h1 : lw ≤ hg := by omega) (h2 : hg ≤ cap := by omega) (hd : Nat.blt d n.n = true := by rfl) (hw : wantedF l.toArray fr g true = true := by rfl) (hchk : (chkQs l is done i && !memb d (pend.map (·.d)) && offF fr pend) = true := by kernel_rfl) : SdP P l Q L W n κ is pend (fuel + 1) done fr cs := .q i hi (have := h.2; .slc h.1 hl hh h1 h2) kk hd hw hchk
theorem SdP.slc3 {E : TypeId} {m by_ : Nat} {p : Option Addr} {len cap : Nat} (i : Nat) (kk : SdP P l Q L W n κ is pend fuel (i :: done) ((d, .slice p a.toNat b.toNat) :: fr) cs) (hi : getO l i = some ⟨some d, .slice T x none (some y) (some z), ty, pos, af, g⟩ := by rfl) (h : ev fr x = some (.slice p len cap) ∧ Sl P T E m by_ ∧ ev fr y = some (.int k a) ∧ ev fr z = some (.int j b) := by refine ⟨rfl, ?_, rfl, rfl⟩; infer_instance) (h1 : 0 ≤ a ∧ a ≤ b := by omega) (h2 : b ≤ cap := by omega) (hd : Nat.blt d n.n = true := by rfl) (hw : wantedF l.toArray fr g true = true := by rfl) (hchk : (chkQs l is done i && !memb d (pend.map (·.d)) && offF fr pend) = true := by kernel_rfl) : SdP P l Q L W n κ is pend (fuel + 1) done fr cs := .q i hi (have := h.2.1; .slc3 h.1 h.2.2.1 h.2.2.2 h1 h2) kk hd hw hchk

variable {r : List Value}
theorem Pd.okBs {i m by_ len : Nat} {xs : List (Nat × Operand)} {vs : List (Nat × Value)} {zs r : List Value} (hi : getO l i = some ⟨some d, .buildSlice T len xs.toArray, ty, pos, af, none⟩ := by rfl)
    (h : Sl P T E m by_ ∧ Zr P E zs ∧ (zs.length = m ∧ Nat.blt 0 m = true ∧ Nat.ble (len * m) 65536 = true ∧ Nat.blt 0 len = true) ∧ evp fr xs = some vs ∧ bld (reps len zs) ((List.range len).map fun i => (i * m, m)) vs = some r := by
      refine ⟨?_, ?_, ⟨?_, ?_, ?_, ?_⟩, ?_, ?_⟩; infer_instance; infer_instance; rfl; rfl; rfl; rfl; rfl; rfl) (hd : Nat.blt d n.n = true := by rfl) (hl : look fr d = none := by rfl) :
    Pd.ok P l n κ fr ⟨i, d, fun b => .slice (some ⟨b, 0, none⟩) len len, (E, r)⟩ := ⟨_, _, _, _, hi, hd, hl, fun _ => have := h.1; have := h.2.1; .buildSlice h.2.2.1 h.2.2.2.1 h.2.2.2.2⟩
theorem Pd.okAl {i : Nat} {zs : List Value} (hi : getO l i = some ⟨some d, .alloc T, ty, pos, af, none⟩ := by rfl) (h : Zr P T zs := by infer_instance) (hd : Nat.blt d n.n = true := by rfl) (hl : look fr d = none := by rfl) :
    Pd.ok P l n κ fr ⟨i, d, fun b => .pointer (some ⟨b, 0, none⟩), (T, zs)⟩ := ⟨_, _, _, _, hi, hd, hl, fun _ => .alloc⟩
theorem Pd.okBx {i : Nat} (hi : getO l i = some ⟨some d, .box T x, ty, pos, af, none⟩ := by rfl) (h : ev fr x = some v := by rfl) (hd : Nat.blt d n.n = true := by rfl) (hl : look fr d = none := by rfl) :
    Pd.ok P l n κ fr ⟨i, d, fun b => .pointer (some ⟨b, 0, none⟩), (T, vc v)⟩ := ⟨_, _, _, _, hi, hd, hl, fun _ => .box h⟩
theorem Pd.oks0 : Pd.oks P l n κ fr [] := trivial
theorem Pd.oks1 {p : Pd} {t : List Pd} (h : Pd.ok P l n κ fr p) (k : Pd.oks P l n κ fr t) : Pd.oks P l n κ fr (p :: t) := ⟨h, k⟩
theorem SdP.al {zs : List Value} (i : Nat) (kk : SdP P l Q L W n κ (i :: is) (⟨i, d, fun b => .pointer (some ⟨b, 0, none⟩), (T, zs)⟩ :: pend) fuel done fr cs) (_hi : getO l i = some ⟨some d, .alloc T, ty, pos, af, none⟩ := by rfl) (_h : Zr P T zs := by infer_instance) :
    SdP P l Q L W n κ is pend (fuel + 1) done fr cs := .add _ kk
theorem SdP.bx (i : Nat) (kk : SdP P l Q L W n κ (i :: is) (⟨i, d, fun b => .pointer (some ⟨b, 0, none⟩), (T, vc v)⟩ :: pend) fuel done fr cs) (_hi : getO l i = some ⟨some d, .box T x, ty, pos, af, none⟩ := by rfl) (_h : ev fr x = some v := by rfl) :
    SdP P l Q L W n κ is pend (fuel + 1) done fr cs := .add _ kk
theorem SdP.bs {m by_ len : Nat} {xs : List (Nat × Operand)} {vs : List (Nat × Value)} {zs r : List Value} (i : Nat)
    (kk : SdP P l Q L W n κ (i :: is) (⟨i, d, fun b => .slice (some ⟨b, 0, none⟩) len len, (E, r)⟩ :: pend) fuel done fr cs) (_hi : getO l i = some ⟨some d, .buildSlice T len xs.toArray, ty, pos, af, none⟩ := by rfl)
    (_h : Sl P T E m by_ ∧ Zr P E zs ∧ (zs.length = m ∧ Nat.blt 0 m = true ∧ Nat.ble (len * m) 65536 = true ∧ Nat.blt 0 len = true) ∧ evp fr xs = some vs ∧ bld (reps len zs) ((List.range len).map fun i => (i * m, m)) vs = some r := by
      refine ⟨?_, ?_, ⟨?_, ?_, ?_, ?_⟩, ?_, ?_⟩; infer_instance; infer_instance; rfl; rfl; rfl; rfl; rfl; rfl) :
    SdP P l Q L W n κ is pend (fuel + 1) done fr cs := .add _ kk
theorem SdP.com {i d : Nat} {V : Nat → Value} {x : TypeId × List Value} (k : ∀ b, SdP P l Q L W n κ is pend fuel (i :: done) ((d, V b) :: fr) (pts b x :: cs))
    (hok : Pd.oks P l n κ fr (⟨i, d, V, x⟩ :: pend) := by repeat' (first | exact Pd.okBs | exact Pd.okAl | exact Pd.okBx | exact Pd.oks0 | apply Pd.oks1)) (hWc : WOk cs W := by infer_instance)
    (hchk : (chkQf l (i :: is) done && nodB (((⟨i, d, V, x⟩ : Pd) :: pend).map (·.d))) = true := by kernel_rfl) : SdP P l Q L W n κ (i :: is) (⟨i, d, V, x⟩ :: pend) fuel done fr cs := .cm (p := ⟨i, d, V, x⟩) k hok hWc hchk
theorem hfr_put {pend : List Pd} (hd : Nat.blt d n.n = true) (hm : memb d (pend.map (·.d)) = false) (F : List (Nat × Value)) (a : Act) (v : Value) (hF : ∀ x ∈ F, x.1 ∈ pend.map (·.d)) (h : Fr n a (F ++ fr)) : Fr n (a.put (some d) v) (F ++ (d, v) :: fr) := by
  have h1 := h.put (v := v) hd
  have h2 : Fr n (a.put (some d) v) ((d, v) :: (F ++ fr)) := h1
  have gen : ∀ F : List (Nat × Value), (∀ x ∈ F, x.1 ≠ d) → ∀ t u, look (F ++ (d, v) :: fr) t = some u → look ((d, v) :: (F ++ fr)) t = some u := by
    intro F
    induction F with
    | nil => intro _ t u h; exact h
    | cons z F ih =>
      obtain ⟨d', v'⟩ := z
      intro hne t u hl
      have hl : look ((d', v') :: (F ++ (d, v) :: fr)) t = some u := hl
      show look ((d, v) :: (d', v') :: (F ++ fr)) t = some u
      have hdd := hne (d', v') (List.mem_cons_self ..)
      have ih := ih (fun x hx => hne x (List.mem_cons_of_mem _ hx)) t u
      simp only [look] at hl ih ⊢
      cases hb : Nat.beq d' t with
      | true =>
        have := Nat.eq_of_beq_eq_true hb; subst this
        have h3 : Nat.beq d d' = false := by
          cases h4 : Nat.beq d d' with
          | false => rfl
          | true => exact absurd (Nat.eq_of_beq_eq_true h4).symm hdd
        rw [h3]; simpa [hb] using hl
      | false =>
        rw [hb] at hl
        have := ih (by simpa using hl)
        cases h3 : Nat.beq d t <;> simpa [h3] using this
  refine h2.weaken (gen F fun x hx hxd => memb_no hm ?_)
  have := hF x hx
  rwa [hxd] at this
/-- A call whose value and memory are known, rows being pending: its contract must hold beside any rows. -/
theorem SdP.cl {f : FuncId} {xs : List Operand} {ts : Array TypeId} {vs : List Value} {cs' : List HProp} (i : Nat) (h : ∀ F : List HProp, Tr P f vs κ (F ++ cs) v (F ++ cs'))
    (kk : SdP P l Q L W n κ is pend fuel (i :: done) ((d, v) :: fr) cs') (hi : getO l i = some ⟨some d, .call ⟨.value (.func f), xs.toArray, ts⟩, ty, pos, af, g⟩ := by rfl) (hx : evs fr xs = some vs := by rfl) (hc : Cal P f := by infer_instance)
    (hok : Pd.oks P l n κ fr pend := by repeat' (first | exact Pd.okBs | exact Pd.okAl | exact Pd.okBx | exact Pd.oks0 | apply Pd.oks1)) (hWc : WOk cs W := by infer_instance)
    (hW : WOk cs' W := by infer_instance) (hd : Nat.blt d n.n = true := by rfl) (hw : wantedF l.toArray fr g true = true := by rfl)
    (hchk : (chkR l is done [i] && chkQr l is done i && nodB (pend.map (·.d))) = true := by kernel_rfl) (hm : memb d (pend.map (·.d)) = false := by kernel_rfl) : SdP P l Q L W n κ is pend (fuel + 1) done fr cs :=
  .nn i (K := fun u c => u = v ∧ c = cs') (fr' := fun v => (d, v) :: fr) hi hw
    (fun F => fun a w next Q hf hs hn => OpN.call (K := fun u c => u = v ∧ c = F ++ cs') hx (fun w hs => (h F w hs).mono fun _ _ ⟨e, s⟩ => ⟨v, F ++ cs', e, ⟨rfl, rfl⟩, s⟩) a w next Q hf hs fun v c w' ⟨e1, e2⟩ hs' => hn v c w' ⟨cs', ⟨e1, rfl⟩, e2⟩ hs')
    (fun F a v hF hf => hfr_put hd hm F a v hF hf) hok hWc (fun _ _ ⟨_, e'⟩ => .inl (by rw [e']; exact hW)) (fun _ _ ⟨e, e'⟩ => by rw [e, e']; exact kk) hchk

theorem SdP.st {b0 o m : Nat} {agg : Bool} {r r' : List Value} {F : List Value → List HProp} (i : Nat) (kk : SdP P l Q L W n κ is pend fuel (i :: done) fr (F r')) (hi : getO l i = some ⟨none, .store T x y, ty, pos, af, g⟩ := by rfl)
    (h : ev fr x = some (.pointer (some ⟨b0, o, none⟩)) ∧ ev fr y = some v ∧ Wr b0 cs r F ∧ Ty P T agg m ∧ ((vc v).length = m ∧ Nat.blt 0 m = true) ∧ one (vc v) = true ∧ putN r o (vc v) = some r' := by
      refine ⟨rfl, rfl, ?_, ?_, ⟨?_, ?_⟩, ?_, ?_⟩; infer_instance; infer_instance; rfl; rfl; rfl; rfl)
    (hok : Pd.oks P l n κ fr pend := by repeat' (first | exact Pd.okBs | exact Pd.okAl | exact Pd.okBx | exact Pd.oks0 | apply Pd.oks1)) (hWc : WOk cs W := by infer_instance)
    (hW : WOk (F r') W ∨ memb i L = true := by first | exact .inr rfl | (left; infer_instance)) (hw : wantedF l.toArray fr g true = true := by rfl)
    (hchk : (chkR l is done [i] && chkQr l is done i && nodB (pend.map (·.d))) = true := by kernel_rfl) : SdP P l Q L W n κ is pend (fuel + 1) done fr cs :=
  .nn i (K := fun _ c => c = F r') (fr' := fun _ => fr) hi hw
    (fun G => fun a w next Q hf hs hn => (have := h.2.2.1.app (F := G); have := h.2.2.2.1; OpN.store (F := fun r' => G ++ F r') h.1 h.2.1 h.2.2.2.2.1 h.2.2.2.2.2.1 h.2.2.2.2.2.2) a w next Q hf hs fun v c w' ⟨_, e2⟩ hs' => hn v c w' ⟨_, rfl, e2⟩ hs')
    (fun F a v hF hf => hf) hok hWc (fun _ _ e' => by rw [e']; exact hW) (fun _ _ e => by rw [e]; exact kk) hchk
theorem SdP.ce {ι : Type} {f : FuncId} {xs : List Operand} {ts : Array TypeId} {vs : List Value} {rr : ι → Value} {cs' : ι → List HProp} {p : ι → Prop} (i : Nat)
    (h : ∀ F : List HProp, Te P f vs κ (F ++ cs) p rr (fun i' => F ++ cs' i'))
    (kk : ∀ i', p i' → SdP P l Q L W n κ is pend fuel (i :: done) ((d, rr i') :: fr) (cs' i')) (hi : getO l i = some ⟨some d, .call ⟨.value (.func f), xs.toArray, ts⟩, ty, pos, af, g⟩ := by rfl) (hx : evs fr xs = some vs := by rfl) (hc : Cal P f := by infer_instance)
    (hok : Pd.oks P l n κ fr pend := by repeat' (first | exact Pd.okBs | exact Pd.okAl | exact Pd.okBx | exact Pd.oks0 | apply Pd.oks1)) (hWc : WOk cs W := by infer_instance)
    (hW : ∀ i', WOk (cs' i') W := by intro _; infer_instance) (hd : Nat.blt d n.n = true := by rfl) (hw : wantedF l.toArray fr g true = true := by rfl)
    (hchk : (chkR l is done [i] && chkQr l is done i && nodB (pend.map (·.d))) = true := by kernel_rfl) (hm : memb d (pend.map (·.d)) = false := by kernel_rfl) : SdP P l Q L W n κ is pend (fuel + 1) done fr cs :=
  .nn i (K := fun u c => ∃ i, p i ∧ u = rr i ∧ c = cs' i) (fr' := fun v => (d, v) :: fr) hi hw
    (fun F => fun a w next Q hf hs hn => OpN.call (K := fun u c => ∃ i, p i ∧ u = rr i ∧ c = F ++ cs' i) hx (fun w hs => (h F w hs).mono fun _ _ ⟨i, hp, e, s⟩ => ⟨rr i, F ++ cs' i, e, ⟨i, hp, rfl, rfl⟩, s⟩) a w next Q hf hs fun v c w' ⟨j, hp, e1, e2⟩ hs' => hn v c w' ⟨cs' j, ⟨j, hp, e1, rfl⟩, e2⟩ hs')
    (fun F a v hF hf => hfr_put hd hm F a v hF hf) hok hWc (fun _ _ ⟨i', _, _, e'⟩ => .inl (by rw [e']; exact hW i')) (fun _ _ ⟨i', hp, e, e'⟩ => by rw [e, e']; exact kk i' hp) hchk
end
/-- For a look at a walk: what stands in the frame, and what is owned. -/
def Dbg (_ : List (Nat × Value)) (_ : List HProp) : Prop := False
theorem Co.dbg {P : Program} {Q : Exit → Act → World → Prop} {n : Nd} {κ : Kap} {c : Code} {fr : List (Nat × Value)} {cs : List HProp} (h : Dbg fr cs) : Co P Q n κ c fr cs := h.elim
theorem St.dbg {P : Program} {ops : Array Oper} {Q : Exit → Act → World → Prop} {n : Nd} {κ : Kap} {c : List Oper} {fr : List (Nat × Value)} {cs : List HProp} (h : Dbg fr cs) : St P ops Q n κ c fr cs := h.elim
theorem Sd.dbg {P : Program} {l : List Oper} {Q : Exit → Act → World → Prop} {L : List Nat} {W : List (Nat × Nat × List Value)} {n : Nd} {κ : Kap} {fuel : Nat} {done : List Nat} {fr : List (Nat × Value)} {cs : List HProp} (h : Dbg fr cs) : Sd P l Q L W n κ fuel done fr cs := h.elim
theorem SdP.dbg {P : Program} {l : List Oper} {Q : Exit → Act → World → Prop} {L : List Nat} {W : List (Nat × Nat × List Value)} {n : Nd} {κ : Kap} {is : List Nat} {pend : List Pd} {fuel : Nat} {done : List Nat} {fr : List (Nat × Value)} {cs : List HProp} (h : Dbg fr cs) : SdP P l Q L W n κ is pend fuel done fr cs := h.elim
end Go.Proofs.YtpcechnalfaajaaDoor

/- Facts on the program's types and functions, each reckoned by the kernel. -/
namespace Go.Proofs.YtpcechnalfaajaaDoor
open Go Go.Proofs
instance : Ty Tryd.prog 3 false 1 := ⟨fun _ => by kernel_rfl, fun _ => by kernel_rfl⟩
instance : Ty Tryd.prog 4 false 1 := ⟨fun _ => by kernel_rfl, fun _ => by kernel_rfl⟩
instance : Ty Tryd.prog 5 false 1 := ⟨fun _ => by kernel_rfl, fun _ => by kernel_rfl⟩
instance : Ty Tryd.prog 22 false 1 := ⟨fun _ => by kernel_rfl, fun _ => by kernel_rfl⟩
instance : Ty Tryd.prog 24 true 2 := ⟨fun _ => by kernel_rfl, fun _ => by kernel_rfl⟩
instance : Ty Tryd.prog 25 true 2 := ⟨fun _ => by kernel_rfl, fun _ => by kernel_rfl⟩
instance : Ty Tryd.prog 27 false 1 := ⟨fun _ => by kernel_rfl, fun _ => by kernel_rfl⟩
instance : Ty Tryd.prog 30 false 1 := ⟨fun _ => by kernel_rfl, fun _ => by kernel_rfl⟩
instance : Ty Tryd.prog 35 true 32 := ⟨fun _ => by kernel_rfl, fun _ => by kernel_rfl⟩
instance : Ty Tryd.prog 37 true 46 := ⟨fun _ => by kernel_rfl, fun _ => by kernel_rfl⟩
instance : Ty Tryd.prog 38 false 1 := ⟨fun _ => by kernel_rfl, fun _ => by kernel_rfl⟩
instance : Ty Tryd.prog 39 false 1 := ⟨fun _ => by kernel_rfl, fun _ => by kernel_rfl⟩
instance : Ty Tryd.prog 41 true 8 := ⟨fun _ => by kernel_rfl, fun _ => by kernel_rfl⟩
instance : Ty Tryd.prog 43 true 16 := ⟨fun _ => by kernel_rfl, fun _ => by kernel_rfl⟩
instance : Ty Tryd.prog 45 true 2 := ⟨fun _ => by kernel_rfl, fun _ => by kernel_rfl⟩
instance : Ty Tryd.prog 56 true 6 := ⟨fun _ => by kernel_rfl, fun _ => by kernel_rfl⟩
instance : Ty Tryd.prog 69 false 1 := ⟨fun _ => by kernel_rfl, fun _ => by kernel_rfl⟩
instance : Ty Tryd.prog 71 true 14 := ⟨fun _ => by kernel_rfl, fun _ => by kernel_rfl⟩
instance : Ty Tryd.prog 72 false 1 := ⟨fun _ => by kernel_rfl, fun _ => by kernel_rfl⟩
instance : Ty Tryd.prog 84 false 1 := ⟨fun _ => by kernel_rfl, fun _ => by kernel_rfl⟩
instance : Ty Tryd.prog 86 true 2 := ⟨fun _ => by kernel_rfl, fun _ => by kernel_rfl⟩
instance : Ty Tryd.prog 87 false 1 := ⟨fun _ => by kernel_rfl, fun _ => by kernel_rfl⟩
instance : Ty Tryd.prog 88 false 1 := ⟨fun _ => by kernel_rfl, fun _ => by kernel_rfl⟩
instance : Ty Tryd.prog 92 true 7 := ⟨fun _ => by kernel_rfl, fun _ => by kernel_rfl⟩
instance : Ty Tryd.prog 98 false 1 := ⟨fun _ => by kernel_rfl, fun _ => by kernel_rfl⟩
instance : Ty Tryd.prog 103 false 1 := ⟨fun _ => by kernel_rfl, fun _ => by kernel_rfl⟩
instance : Ty Tryd.prog 104 false 1 := ⟨fun _ => by kernel_rfl, fun _ => by kernel_rfl⟩
instance : Ty Tryd.prog 106 true 2 := ⟨fun _ => by kernel_rfl, fun _ => by kernel_rfl⟩
instance : Ty Tryd.prog 111 false 1 := ⟨fun _ => by kernel_rfl, fun _ => by kernel_rfl⟩
instance : Ty Tryd.prog 112 true 5 := ⟨fun _ => by kernel_rfl, fun _ => by kernel_rfl⟩
instance : Ty Tryd.prog 114 true 20 := ⟨fun _ => by kernel_rfl, fun _ => by kernel_rfl⟩
instance : Ty Tryd.prog 128 false 1 := ⟨fun _ => by kernel_rfl, fun _ => by kernel_rfl⟩
instance : Ty Tryd.prog 130 true 3 := ⟨fun _ => by kernel_rfl, fun _ => by kernel_rfl⟩
instance : Ty Tryd.prog 133 false 1 := ⟨fun _ => by kernel_rfl, fun _ => by kernel_rfl⟩
instance : Ty Tryd.prog 141 false 1 := ⟨fun _ => by kernel_rfl, fun _ => by kernel_rfl⟩
instance : Ty Tryd.prog 146 true 1 := ⟨fun _ => by kernel_rfl, fun _ => by kernel_rfl⟩
instance : Ty Tryd.prog 151 false 1 := ⟨fun _ => by kernel_rfl, fun _ => by kernel_rfl⟩
instance : Ty Tryd.prog 156 false 1 := ⟨fun _ => by kernel_rfl, fun _ => by kernel_rfl⟩
instance : Ty Tryd.prog 157 true 8 := ⟨fun _ => by kernel_rfl, fun _ => by kernel_rfl⟩
instance : Ty Tryd.prog 160 true 64 := ⟨fun _ => by kernel_rfl, fun _ => by kernel_rfl⟩
instance : Fd Tryd.prog 24 0 0 := ⟨fun _ _ _ => by kernel_rfl⟩
instance : Fd Tryd.prog 24 1 1 := ⟨fun _ _ _ => by kernel_rfl⟩
instance : Fd Tryd.prog 37 0 0 := ⟨fun _ _ _ => by kernel_rfl⟩
instance : Fd Tryd.prog 37 1 2 := ⟨fun _ _ _ => by kernel_rfl⟩
instance : Fd Tryd.prog 37 2 3 := ⟨fun _ _ _ => by kernel_rfl⟩
instance : Fd Tryd.prog 37 3 4 := ⟨fun _ _ _ => by kernel_rfl⟩
instance : Fd Tryd.prog 37 4 6 := ⟨fun _ _ _ => by kernel_rfl⟩
instance : Fd Tryd.prog 37 5 8 := ⟨fun _ _ _ => by kernel_rfl⟩
instance : Fd Tryd.prog 37 6 10 := ⟨fun _ _ _ => by kernel_rfl⟩
instance : Fd Tryd.prog 37 8 13 := ⟨fun _ _ _ => by kernel_rfl⟩
instance : Fd Tryd.prog 37 9 14 := ⟨fun _ _ _ => by kernel_rfl⟩
instance : Fd Tryd.prog 41 0 0 := ⟨fun _ _ _ => by kernel_rfl⟩
instance : Fd Tryd.prog 41 1 1 := ⟨fun _ _ _ => by kernel_rfl⟩
instance : Fd Tryd.prog 41 2 2 := ⟨fun _ _ _ => by kernel_rfl⟩
instance : Fd Tryd.prog 41 4 5 := ⟨fun _ _ _ => by kernel_rfl⟩
instance : Fd Tryd.prog 43 0 0 := ⟨fun _ _ _ => by kernel_rfl⟩
instance : Fd Tryd.prog 43 1 2 := ⟨fun _ _ _ => by kernel_rfl⟩
instance : Fd Tryd.prog 43 2 4 := ⟨fun _ _ _ => by kernel_rfl⟩
instance : Fd Tryd.prog 43 3 6 := ⟨fun _ _ _ => by kernel_rfl⟩
instance : Fd Tryd.prog 43 4 8 := ⟨fun _ _ _ => by kernel_rfl⟩
instance : Fd Tryd.prog 43 5 10 := ⟨fun _ _ _ => by kernel_rfl⟩
instance : Fd Tryd.prog 43 6 11 := ⟨fun _ _ _ => by kernel_rfl⟩
instance : Fd Tryd.prog 43 7 12 := ⟨fun _ _ _ => by kernel_rfl⟩
instance : Fd Tryd.prog 43 8 13 := ⟨fun _ _ _ => by kernel_rfl⟩
instance : Fd Tryd.prog 43 9 14 := ⟨fun _ _ _ => by kernel_rfl⟩
instance : Fd Tryd.prog 43 10 15 := ⟨fun _ _ _ => by kernel_rfl⟩
instance : Fd Tryd.prog 45 0 0 := ⟨fun _ _ _ => by kernel_rfl⟩
instance : Fd Tryd.prog 45 1 1 := ⟨fun _ _ _ => by kernel_rfl⟩
instance : Fd Tryd.prog 71 0 0 := ⟨fun _ _ _ => by kernel_rfl⟩
instance : Fd Tryd.prog 71 1 2 := ⟨fun _ _ _ => by kernel_rfl⟩
instance : Fd Tryd.prog 71 2 3 := ⟨fun _ _ _ => by kernel_rfl⟩
instance : Fd Tryd.prog 71 3 4 := ⟨fun _ _ _ => by kernel_rfl⟩
instance : Fd Tryd.prog 71 4 6 := ⟨fun _ _ _ => by kernel_rfl⟩
instance : Fd Tryd.prog 71 5 8 := ⟨fun _ _ _ => by kernel_rfl⟩
instance : Fd Tryd.prog 71 6 10 := ⟨fun _ _ _ => by kernel_rfl⟩
instance : Fd Tryd.prog 71 7 12 := ⟨fun _ _ _ => by kernel_rfl⟩
instance : Fd Tryd.prog 86 0 0 := ⟨fun _ _ _ => by kernel_rfl⟩
instance : Fd Tryd.prog 86 1 1 := ⟨fun _ _ _ => by kernel_rfl⟩
instance : Fd Tryd.prog 90 0 0 := ⟨fun _ _ _ => by kernel_rfl⟩
instance : Fd Tryd.prog 90 1 1 := ⟨fun _ _ _ => by kernel_rfl⟩
instance : Fd Tryd.prog 90 2 2 := ⟨fun _ _ _ => by kernel_rfl⟩
instance : Fd Tryd.prog 90 3 3 := ⟨fun _ _ _ => by kernel_rfl⟩
instance : Fd Tryd.prog 90 4 4 := ⟨fun _ _ _ => by kernel_rfl⟩
instance : Fd Tryd.prog 92 0 0 := ⟨fun _ _ _ => by kernel_rfl⟩
instance : Fd Tryd.prog 92 1 5 := ⟨fun _ _ _ => by kernel_rfl⟩
instance : Fd Tryd.prog 92 2 6 := ⟨fun _ _ _ => by kernel_rfl⟩
instance : Fd Tryd.prog 106 0 0 := ⟨fun _ _ _ => by kernel_rfl⟩
instance : Fd Tryd.prog 106 1 1 := ⟨fun _ _ _ => by kernel_rfl⟩
instance : Fd Tryd.prog 114 0 0 := ⟨fun _ _ _ => by kernel_rfl⟩
instance : Fd Tryd.prog 114 1 5 := ⟨fun _ _ _ => by kernel_rfl⟩
instance : Fd Tryd.prog 114 2 10 := ⟨fun _ _ _ => by kernel_rfl⟩
instance : Fd Tryd.prog 114 3 15 := ⟨fun _ _ _ => by kernel_rfl⟩
instance : Fd Tryd.prog 130 0 0 := ⟨fun _ _ _ => by kernel_rfl⟩
instance : Fd Tryd.prog 130 1 1 := ⟨fun _ _ _ => by kernel_rfl⟩
instance : Fd Tryd.prog 130 2 2 := ⟨fun _ _ _ => by kernel_rfl⟩
instance : Fd Tryd.prog 146 0 0 := ⟨fun _ _ _ => by kernel_rfl⟩
instance : Fd Tryd.prog 153 0 0 := ⟨fun _ _ _ => by kernel_rfl⟩
instance : Zr Tryd.prog 3 [.int .i64 0] := ⟨fun _ => ⟨.int .i64 0, by kernel_rfl, by kernel_rfl⟩⟩
instance : Zr Tryd.prog 5 [.int .u8 0] := ⟨fun _ => ⟨.int .u8 0, by kernel_rfl, by kernel_rfl⟩⟩
instance : Zr Tryd.prog 24 [.int .u64 0, .int .u64 0] := ⟨fun _ => ⟨.agg [.int .u64 0, .int .u64 0].toArray, by kernel_rfl, by kernel_rfl⟩⟩
instance : Zr Tryd.prog 25 [.int .i64 0, .int .i64 0] := ⟨fun _ => ⟨.agg [.int .i64 0, .int .i64 0].toArray, by kernel_rfl, by kernel_rfl⟩⟩
instance : Zr Tryd.prog 27 [.pointer none] := ⟨fun _ => ⟨.pointer none, by kernel_rfl, by kernel_rfl⟩⟩
instance : Zr Tryd.prog 35 [.int .u8 0, .int .u8 0, .int .u8 0, .int .u8 0, .int .u8 0, .int .u8 0, .int .u8 0, .int .u8 0, .int .u8 0, .int .u8 0, .int .u8 0, .int .u8 0, .int .u8 0, .int .u8 0, .int .u8 0, .int .u8 0, .int .u8 0, .int .u8 0, .int .u8 0, .int .u8 0, .int .u8 0, .int .u8 0, .int .u8 0, .int .u8 0, .int .u8 0, .int .u8 0, .int .u8 0, .int .u8 0, .int .u8 0, .int .u8 0, .int .u8 0, .int .u8 0] := ⟨fun _ => ⟨.agg [.int .u8 0, .int .u8 0, .int .u8 0, .int .u8 0, .int .u8 0, .int .u8 0, .int .u8 0, .int .u8 0, .int .u8 0, .int .u8 0, .int .u8 0, .int .u8 0, .int .u8 0, .int .u8 0, .int .u8 0, .int .u8 0, .int .u8 0, .int .u8 0, .int .u8 0, .int .u8 0, .int .u8 0, .int .u8 0, .int .u8 0, .int .u8 0, .int .u8 0, .int .u8 0, .int .u8 0, .int .u8 0, .int .u8 0, .int .u8 0, .int .u8 0, .int .u8 0].toArray, by kernel_rfl, by kernel_rfl⟩⟩
instance : Zr Tryd.prog 37 [.int .u64 0, .int .u64 0, .int .i64 0, .int .i64 0, .int .u64 0, .int .u64 0, .int .u64 0, .int .u64 0, .int .u64 0, .int .u64 0, .int .u64 0, .int .u64 0, .int .i64 0, .int .i64 0, .int .u8 0, .int .u8 0, .int .u8 0, .int .u8 0, .int .u8 0, .int .u8 0, .int .u8 0, .int .u8 0, .int .u8 0, .int .u8 0, .int .u8 0, .int .u8 0, .int .u8 0, .int .u8 0, .int .u8 0, .int .u8 0, .int .u8 0, .int .u8 0, .int .u8 0, .int .u8 0, .int .u8 0, .int .u8 0, .int .u8 0, .int .u8 0, .int .u8 0, .int .u8 0, .int .u8 0, .int .u8 0, .int .u8 0, .int .u8 0, .int .u8 0, .int .u8 0] := ⟨fun _ => ⟨.agg [.int .u64 0, .int .u64 0, .int .i64 0, .int .i64 0, .int .u64 0, .int .u64 0, .int .u64 0, .int .u64 0, .int .u64 0, .int .u64 0, .int .u64 0, .int .u64 0, .int .i64 0, .int .i64 0, .int .u8 0, .int .u8 0, .int .u8 0, .int .u8 0, .int .u8 0, .int .u8 0, .int .u8 0, .int .u8 0, .int .u8 0, .int .u8 0, .int .u8 0, .int .u8 0, .int .u8 0, .int .u8 0, .int .u8 0, .int .u8 0, .int .u8 0, .int .u8 0, .int .u8 0, .int .u8 0, .int .u8 0, .int .u8 0, .int .u8 0, .int .u8 0, .int .u8 0, .int .u8 0, .int .u8 0, .int .u8 0, .int .u8 0, .int .u8 0, .int .u8 0, .int .u8 0].toArray, by kernel_rfl, by kernel_rfl⟩⟩
instance : Zr Tryd.prog 38 [.slice none 0 0] := ⟨fun _ => ⟨.slice none 0 0, by kernel_rfl, by kernel_rfl⟩⟩
instance : Zr Tryd.prog 41 [.int .i64 0, .slice none 0 0, .slice none 0 0, .int .u64 0, .int .u64 0, .int .i64 0, .int .i64 0, .int .i64 0] := ⟨fun _ => ⟨.agg [.int .i64 0, .slice none 0 0, .slice none 0 0, .int .u64 0, .int .u64 0, .int .i64 0, .int .i64 0, .int .i64 0].toArray, by kernel_rfl, by kernel_rfl⟩⟩
instance : Zr Tryd.prog 43 [.int .u64 0, .int .u64 0, .int .u64 0, .int .u64 0, .int .u64 0, .int .u64 0, .int .u64 0, .int .u64 0, .int .u64 0, .int .u64 0, .int .i64 0, .int .i64 0, .int .i64 0, .int .i64 0, .int .i64 0, .int .i64 0] := ⟨fun _ => ⟨.agg [.int .u64 0, .int .u64 0, .int .u64 0, .int .u64 0, .int .u64 0, .int .u64 0, .int .u64 0, .int .u64 0, .int .u64 0, .int .u64 0, .int .i64 0, .int .i64 0, .int .i64 0, .int .i64 0, .int .i64 0, .int .i64 0].toArray, by kernel_rfl, by kernel_rfl⟩⟩
instance : Zr Tryd.prog 45 [.int .i64 0, .int .i64 0] := ⟨fun _ => ⟨.agg [.int .i64 0, .int .i64 0].toArray, by kernel_rfl, by kernel_rfl⟩⟩
instance : Zr Tryd.prog 52 [.int .u64 0, .int .u64 0, .int .u64 0, .int .u64 0] := ⟨fun _ => ⟨.agg [.int .u64 0, .int .u64 0, .int .u64 0, .int .u64 0].toArray, by kernel_rfl, by kernel_rfl⟩⟩
instance : Zr Tryd.prog 56 [.int .u64 0, .int .u64 0, .int .u64 0, .int .u64 0, .int .u64 0, .int .u64 0] := ⟨fun _ => ⟨.agg [.int .u64 0, .int .u64 0, .int .u64 0, .int .u64 0, .int .u64 0, .int .u64 0].toArray, by kernel_rfl, by kernel_rfl⟩⟩
instance : Zr Tryd.prog 71 [.int .u64 0, .int .u64 0, .int .i64 0, .int .i64 0, .int .u64 0, .int .u64 0, .int .u64 0, .int .u64 0, .int .u64 0, .int .u64 0, .int .u64 0, .int .u64 0, .int .u64 0, .int .u64 0] := ⟨fun _ => ⟨.agg [.int .u64 0, .int .u64 0, .int .i64 0, .int .i64 0, .int .u64 0, .int .u64 0, .int .u64 0, .int .u64 0, .int .u64 0, .int .u64 0, .int .u64 0, .int .u64 0, .int .u64 0, .int .u64 0].toArray, by kernel_rfl, by kernel_rfl⟩⟩
instance : Zr Tryd.prog 72 [.pointer none] := ⟨fun _ => ⟨.pointer none, by kernel_rfl, by kernel_rfl⟩⟩
instance : Zr Tryd.prog 84 [.pointer none] := ⟨fun _ => ⟨.pointer none, by kernel_rfl, by kernel_rfl⟩⟩
instance : Zr Tryd.prog 86 [.pointer none, .int .i64 0] := ⟨fun _ => ⟨.agg [.pointer none, .int .i64 0].toArray, by kernel_rfl, by kernel_rfl⟩⟩
instance : Zr Tryd.prog 87 [.pointer none] := ⟨fun _ => ⟨.pointer none, by kernel_rfl, by kernel_rfl⟩⟩
instance : Zr Tryd.prog 90 [.slice none 0 0, .slice none 0 0, .slice none 0 0, .pointer none, .pointer none] := ⟨fun _ => ⟨.agg [.slice none 0 0, .slice none 0 0, .slice none 0 0, .pointer none, .pointer none].toArray, by kernel_rfl, by kernel_rfl⟩⟩
instance : Zr Tryd.prog 92 [.slice none 0 0, .slice none 0 0, .slice none 0 0, .pointer none, .pointer none, .int .i64 0, .int .i64 0] := ⟨fun _ => ⟨.agg [.slice none 0 0, .slice none 0 0, .slice none 0 0, .pointer none, .pointer none, .int .i64 0, .int .i64 0].toArray, by kernel_rfl, by kernel_rfl⟩⟩
instance : Zr Tryd.prog 106 [.slice none 0 0, .slice none 0 0] := ⟨fun _ => ⟨.agg [.slice none 0 0, .slice none 0 0].toArray, by kernel_rfl, by kernel_rfl⟩⟩
instance : Zr Tryd.prog 109 [.int .u64 0, .int .u64 0, .int .u64 0, .int .u64 0] := ⟨fun _ => ⟨.agg [.int .u64 0, .int .u64 0, .int .u64 0, .int .u64 0].toArray, by kernel_rfl, by kernel_rfl⟩⟩
instance : Zr Tryd.prog 114 [.int .u64 0, .int .u64 0, .int .u64 0, .int .u64 0, .int .u64 0, .int .u64 0, .int .u64 0, .int .u64 0, .int .u64 0, .int .u64 0, .int .u64 0, .int .u64 0, .int .u64 0, .int .u64 0, .int .u64 0, .int .u64 0, .int .u64 0, .int .u64 0, .int .u64 0, .int .u64 0] := ⟨fun _ => ⟨.agg [.int .u64 0, .int .u64 0, .int .u64 0, .int .u64 0, .int .u64 0, .int .u64 0, .int .u64 0, .int .u64 0, .int .u64 0, .int .u64 0, .int .u64 0, .int .u64 0, .int .u64 0, .int .u64 0, .int .u64 0, .int .u64 0, .int .u64 0, .int .u64 0, .int .u64 0, .int .u64 0].toArray, by kernel_rfl, by kernel_rfl⟩⟩
instance : Zr Tryd.prog 130 [.slice none 0 0, .slice none 0 0, .slice none 0 0] := ⟨fun _ => ⟨.agg [.slice none 0 0, .slice none 0 0, .slice none 0 0].toArray, by kernel_rfl, by kernel_rfl⟩⟩
instance : Zr Tryd.prog 141 [.slice none 0 0] := ⟨fun _ => ⟨.slice none 0 0, by kernel_rfl, by kernel_rfl⟩⟩
instance : Zr Tryd.prog 146 [.slice none 0 0] := ⟨fun _ => ⟨.agg [.slice none 0 0].toArray, by kernel_rfl, by kernel_rfl⟩⟩
instance : Zr Tryd.prog 157 [.int .u32 0, .int .u32 0, .int .u32 0, .int .u32 0, .int .u32 0, .int .u32 0, .int .u32 0, .int .u32 0] := ⟨fun _ => ⟨.agg [.int .u32 0, .int .u32 0, .int .u32 0, .int .u32 0, .int .u32 0, .int .u32 0, .int .u32 0, .int .u32 0].toArray, by kernel_rfl, by kernel_rfl⟩⟩
instance : Zr Tryd.prog 160 [.int .u32 0, .int .u32 0, .int .u32 0, .int .u32 0, .int .u32 0, .int .u32 0, .int .u32 0, .int .u32 0, .int .u32 0, .int .u32 0, .int .u32 0, .int .u32 0, .int .u32 0, .int .u32 0, .int .u32 0, .int .u32 0, .int .u32 0, .int .u32 0, .int .u32 0, .int .u32 0, .int .u32 0, .int .u32 0, .int .u32 0, .int .u32 0, .int .u32 0, .int .u32 0, .int .u32 0, .int .u32 0, .int .u32 0, .int .u32 0, .int .u32 0, .int .u32 0, .int .u32 0, .int .u32 0, .int .u32 0, .int .u32 0, .int .u32 0, .int .u32 0, .int .u32 0, .int .u32 0, .int .u32 0, .int .u32 0, .int .u32 0, .int .u32 0, .int .u32 0, .int .u32 0, .int .u32 0, .int .u32 0, .int .u32 0, .int .u32 0, .int .u32 0, .int .u32 0, .int .u32 0, .int .u32 0, .int .u32 0, .int .u32 0, .int .u32 0, .int .u32 0, .int .u32 0, .int .u32 0, .int .u32 0, .int .u32 0, .int .u32 0, .int .u32 0] := ⟨fun _ => ⟨.agg [.int .u32 0, .int .u32 0, .int .u32 0, .int .u32 0, .int .u32 0, .int .u32 0, .int .u32 0, .int .u32 0, .int .u32 0, .int .u32 0, .int .u32 0, .int .u32 0, .int .u32 0, .int .u32 0, .int .u32 0, .int .u32 0, .int .u32 0, .int .u32 0, .int .u32 0, .int .u32 0, .int .u32 0, .int .u32 0, .int .u32 0, .int .u32 0, .int .u32 0, .int .u32 0, .int .u32 0, .int .u32 0, .int .u32 0, .int .u32 0, .int .u32 0, .int .u32 0, .int .u32 0, .int .u32 0, .int .u32 0, .int .u32 0, .int .u32 0, .int .u32 0, .int .u32 0, .int .u32 0, .int .u32 0, .int .u32 0, .int .u32 0, .int .u32 0, .int .u32 0, .int .u32 0, .int .u32 0, .int .u32 0, .int .u32 0, .int .u32 0, .int .u32 0, .int .u32 0, .int .u32 0, .int .u32 0, .int .u32 0, .int .u32 0, .int .u32 0, .int .u32 0, .int .u32 0, .int .u32 0, .int .u32 0, .int .u32 0, .int .u32 0, .int .u32 0].toArray, by kernel_rfl, by kernel_rfl⟩⟩
instance : Sl Tryd.prog 29 45 2 16 := ⟨fun _ => by kernel_rfl, fun _ => by kernel_rfl, fun _ => ⟨(Tryd.prog.info? 45).getD default, by kernel_rfl, by kernel_rfl⟩⟩
instance : Sl Tryd.prog 38 37 46 144 := ⟨fun _ => by kernel_rfl, fun _ => by kernel_rfl, fun _ => ⟨(Tryd.prog.info? 37).getD default, by kernel_rfl, by kernel_rfl⟩⟩
instance : Sl Tryd.prog 39 43 16 128 := ⟨fun _ => by kernel_rfl, fun _ => by kernel_rfl, fun _ => ⟨(Tryd.prog.info? 43).getD default, by kernel_rfl, by kernel_rfl⟩⟩
instance : Sl Tryd.prog 62 41 8 96 := ⟨fun _ => by kernel_rfl, fun _ => by kernel_rfl, fun _ => ⟨(Tryd.prog.info? 41).getD default, by kernel_rfl, by kernel_rfl⟩⟩
instance : Sl Tryd.prog 69 3 1 8 := ⟨fun _ => by kernel_rfl, fun _ => by kernel_rfl, fun _ => ⟨(Tryd.prog.info? 3).getD default, by kernel_rfl, by kernel_rfl⟩⟩
instance : Sl Tryd.prog 88 72 1 8 := ⟨fun _ => by kernel_rfl, fun _ => by kernel_rfl, fun _ => ⟨(Tryd.prog.info? 72).getD default, by kernel_rfl, by kernel_rfl⟩⟩
instance : Sl Tryd.prog 98 24 2 16 := ⟨fun _ => by kernel_rfl, fun _ => by kernel_rfl, fun _ => ⟨(Tryd.prog.info? 24).getD default, by kernel_rfl, by kernel_rfl⟩⟩
instance : Sl Tryd.prog 103 71 14 112 := ⟨fun _ => by kernel_rfl, fun _ => by kernel_rfl, fun _ => ⟨(Tryd.prog.info? 71).getD default, by kernel_rfl, by kernel_rfl⟩⟩
instance : Sl Tryd.prog 104 35 32 32 := ⟨fun _ => by kernel_rfl, fun _ => by kernel_rfl, fun _ => ⟨(Tryd.prog.info? 35).getD default, by kernel_rfl, by kernel_rfl⟩⟩
instance : Sl Tryd.prog 128 84 1 8 := ⟨fun _ => by kernel_rfl, fun _ => by kernel_rfl, fun _ => ⟨(Tryd.prog.info? 84).getD default, by kernel_rfl, by kernel_rfl⟩⟩
instance : Sl Tryd.prog 141 5 1 1 := ⟨fun _ => by kernel_rfl, fun _ => by kernel_rfl, fun _ => ⟨(Tryd.prog.info? 5).getD default, by kernel_rfl, by kernel_rfl⟩⟩
instance : Sl Tryd.prog 151 141 1 24 := ⟨fun _ => by kernel_rfl, fun _ => by kernel_rfl, fun _ => ⟨(Tryd.prog.info? 141).getD default, by kernel_rfl, by kernel_rfl⟩⟩
instance : Ar Tryd.prog 25 2 3 1 := ⟨fun _ => by kernel_rfl, fun _ => by kernel_rfl⟩
instance : Ar Tryd.prog 35 32 5 1 := ⟨fun _ => by kernel_rfl, fun _ => by kernel_rfl⟩
instance : Ar Tryd.prog 52 2 24 2 := ⟨fun _ => by kernel_rfl, fun _ => by kernel_rfl⟩
instance : Ar Tryd.prog 56 3 24 2 := ⟨fun _ => by kernel_rfl, fun _ => by kernel_rfl⟩
instance : Ar Tryd.prog 109 4 22 1 := ⟨fun _ => by kernel_rfl, fun _ => by kernel_rfl⟩
instance : Ar Tryd.prog 112 5 22 1 := ⟨fun _ => by kernel_rfl, fun _ => by kernel_rfl⟩
instance : Ar Tryd.prog 157 8 156 1 := ⟨fun _ => by kernel_rfl, fun _ => by kernel_rfl⟩
instance : Ar Tryd.prog 160 64 156 1 := ⟨fun _ => by kernel_rfl, fun _ => by kernel_rfl⟩
instance : Cv Tryd.prog 3 5 .u8 := ⟨fun _ _ _ => by kernel_rfl⟩
instance : Cv Tryd.prog 3 22 .u64 := ⟨fun _ _ _ => by kernel_rfl⟩
instance : Cv Tryd.prog 5 156 .u32 := ⟨fun _ _ _ => by kernel_rfl⟩
instance : Cv Tryd.prog 22 5 .u8 := ⟨fun _ _ _ => by kernel_rfl⟩
instance : Cv Tryd.prog 156 5 .u8 := ⟨fun _ _ _ => by kernel_rfl⟩
instance : Bd Tryd.prog 24 [(0, 1), (1, 1)] := ⟨fun _ => by kernel_rfl, fun _ => ⟨(match Tryd.prog.underlying 24 with | some (.struct fs) => fs | _ => #[]), by kernel_rfl⟩⟩
instance : Bd Tryd.prog 37 [(0, 2), (2, 1), (3, 1), (4, 2), (6, 2), (8, 2), (10, 2), (12, 1), (13, 1), (14, 32)] := ⟨fun _ => by kernel_rfl, fun _ => ⟨(match Tryd.prog.underlying 37 with | some (.struct fs) => fs | _ => #[]), by kernel_rfl⟩⟩
instance : Bd Tryd.prog 41 [(0, 1), (1, 1), (2, 1), (3, 2), (5, 1), (6, 1), (7, 1)] := ⟨fun _ => by kernel_rfl, fun _ => ⟨(match Tryd.prog.underlying 41 with | some (.struct fs) => fs | _ => #[]), by kernel_rfl⟩⟩
instance : Bd Tryd.prog 43 [(0, 2), (2, 2), (4, 2), (6, 2), (8, 2), (10, 1), (11, 1), (12, 1), (13, 1), (14, 1), (15, 1)] := ⟨fun _ => by kernel_rfl, fun _ => ⟨(match Tryd.prog.underlying 43 with | some (.struct fs) => fs | _ => #[]), by kernel_rfl⟩⟩
instance : Bd Tryd.prog 45 [(0, 1), (1, 1)] := ⟨fun _ => by kernel_rfl, fun _ => ⟨(match Tryd.prog.underlying 45 with | some (.struct fs) => fs | _ => #[]), by kernel_rfl⟩⟩
instance : Bd Tryd.prog 71 [(0, 2), (2, 1), (3, 1), (4, 2), (6, 2), (8, 2), (10, 2), (12, 2)] := ⟨fun _ => by kernel_rfl, fun _ => ⟨(match Tryd.prog.underlying 71 with | some (.struct fs) => fs | _ => #[]), by kernel_rfl⟩⟩
instance : Bd Tryd.prog 86 [(0, 1), (1, 1)] := ⟨fun _ => by kernel_rfl, fun _ => ⟨(match Tryd.prog.underlying 86 with | some (.struct fs) => fs | _ => #[]), by kernel_rfl⟩⟩
instance : Bd Tryd.prog 90 [(0, 1), (1, 1), (2, 1), (3, 1), (4, 1)] := ⟨fun _ => by kernel_rfl, fun _ => ⟨(match Tryd.prog.underlying 90 with | some (.struct fs) => fs | _ => #[]), by kernel_rfl⟩⟩
instance : Bd Tryd.prog 92 [(0, 5), (5, 1), (6, 1)] := ⟨fun _ => by kernel_rfl, fun _ => ⟨(match Tryd.prog.underlying 92 with | some (.struct fs) => fs | _ => #[]), by kernel_rfl⟩⟩
instance : Bd Tryd.prog 106 [(0, 1), (1, 1)] := ⟨fun _ => by kernel_rfl, fun _ => ⟨(match Tryd.prog.underlying 106 with | some (.struct fs) => fs | _ => #[]), by kernel_rfl⟩⟩
instance : Bd Tryd.prog 114 [(0, 5), (5, 5), (10, 5), (15, 5)] := ⟨fun _ => by kernel_rfl, fun _ => ⟨(match Tryd.prog.underlying 114 with | some (.struct fs) => fs | _ => #[]), by kernel_rfl⟩⟩
instance : Bd Tryd.prog 130 [(0, 1), (1, 1), (2, 1)] := ⟨fun _ => by kernel_rfl, fun _ => ⟨(match Tryd.prog.underlying 130 with | some (.struct fs) => fs | _ => #[]), by kernel_rfl⟩⟩
instance : EqT Tryd.prog 24 2 := ⟨by kernel_rfl, by kernel_rfl, by kernel_rfl⟩
instance : EqT Tryd.prog 37 46 := ⟨by kernel_rfl, by kernel_rfl, by kernel_rfl⟩
instance : EqT Tryd.prog 112 5 := ⟨by kernel_rfl, by kernel_rfl, by kernel_rfl⟩
instance : Sn Tryd.prog 128 := ⟨⟨84, by kernel_rfl⟩⟩
instance : Pn Tryd.prog 84 := ⟨⟨130, by kernel_rfl⟩⟩
instance : Pn Tryd.prog 111 := ⟨⟨114, by kernel_rfl⟩⟩
instance : Pn Tryd.prog 133 := ⟨⟨153, by kernel_rfl⟩⟩
instance : Cal Tryd.prog 2 := ⟨Tryd.f2, Tryd.func2, by kernel_rfl, by kernel_rfl⟩
instance : Cal Tryd.prog 3 := ⟨Tryd.f3, Tryd.func3, by kernel_rfl, by kernel_rfl⟩
instance : Cal Tryd.prog 4 := ⟨Tryd.f4, Tryd.func4, by kernel_rfl, by kernel_rfl⟩
instance : Cal Tryd.prog 5 := ⟨Tryd.f5, Tryd.func5, by kernel_rfl, by kernel_rfl⟩
instance : Cal Tryd.prog 6 := ⟨Tryd.f6, Tryd.func6, by kernel_rfl, by kernel_rfl⟩
instance : Cal Tryd.prog 7 := ⟨Tryd.f7, Tryd.func7, by kernel_rfl, by kernel_rfl⟩
instance : Cal Tryd.prog 8 := ⟨Tryd.f8, Tryd.func8, by kernel_rfl, by kernel_rfl⟩
instance : Cal Tryd.prog 9 := ⟨Tryd.f9, Tryd.func9, by kernel_rfl, by kernel_rfl⟩
instance : Cal Tryd.prog 10 := ⟨Tryd.f10, Tryd.func10, by kernel_rfl, by kernel_rfl⟩
instance : Cal Tryd.prog 11 := ⟨Tryd.f11, Tryd.func11, by kernel_rfl, by kernel_rfl⟩
instance : Cal Tryd.prog 12 := ⟨Tryd.f12, Tryd.func12, by kernel_rfl, by kernel_rfl⟩
instance : Cal Tryd.prog 13 := ⟨Tryd.f13, Tryd.func13, by kernel_rfl, by kernel_rfl⟩
instance : Cal Tryd.prog 14 := ⟨Tryd.f14, Tryd.func14, by kernel_rfl, by kernel_rfl⟩
instance : Cal Tryd.prog 15 := ⟨Tryd.f15, Tryd.func15, by kernel_rfl, by kernel_rfl⟩
instance : Cal Tryd.prog 16 := ⟨Tryd.f16, Tryd.func16, by kernel_rfl, by kernel_rfl⟩
instance : Cal Tryd.prog 17 := ⟨Tryd.f17, Tryd.func17, by kernel_rfl, by kernel_rfl⟩
instance : Cal Tryd.prog 18 := ⟨Tryd.f18, Tryd.func18, by kernel_rfl, by kernel_rfl⟩
instance : Cal Tryd.prog 19 := ⟨Tryd.f19, Tryd.func19, by kernel_rfl, by kernel_rfl⟩
instance : Cal Tryd.prog 20 := ⟨Tryd.f20, Tryd.func20, by kernel_rfl, by kernel_rfl⟩
instance : Cal Tryd.prog 21 := ⟨Tryd.f21, Tryd.func21, by kernel_rfl, by kernel_rfl⟩
instance : Cal Tryd.prog 22 := ⟨Tryd.f22, Tryd.func22, by kernel_rfl, by kernel_rfl⟩
instance : Cal Tryd.prog 23 := ⟨Tryd.f23, Tryd.func23, by kernel_rfl, by kernel_rfl⟩
instance : Cal Tryd.prog 24 := ⟨Tryd.f24, Tryd.func24, by kernel_rfl, by kernel_rfl⟩
instance : Cal Tryd.prog 25 := ⟨Tryd.f25, Tryd.func25, by kernel_rfl, by kernel_rfl⟩
instance : Cal Tryd.prog 26 := ⟨Tryd.f26, Tryd.func26, by kernel_rfl, by kernel_rfl⟩
instance : Cal Tryd.prog 27 := ⟨Tryd.f27, Tryd.func27, by kernel_rfl, by kernel_rfl⟩
instance : Cal Tryd.prog 28 := ⟨Tryd.f28, Tryd.func28, by kernel_rfl, by kernel_rfl⟩
instance : Cal Tryd.prog 29 := ⟨Tryd.f29, Tryd.func29, by kernel_rfl, by kernel_rfl⟩
instance : Cal Tryd.prog 30 := ⟨Tryd.f30, Tryd.func30, by kernel_rfl, by kernel_rfl⟩
instance : Cal Tryd.prog 31 := ⟨Tryd.f31, Tryd.func31, by kernel_rfl, by kernel_rfl⟩
instance : Cal Tryd.prog 32 := ⟨Tryd.f32, Tryd.func32, by kernel_rfl, by kernel_rfl⟩
instance : Cal Tryd.prog 33 := ⟨Tryd.f33, Tryd.func33, by kernel_rfl, by kernel_rfl⟩
instance : Cal Tryd.prog 34 := ⟨Tryd.f34, Tryd.func34, by kernel_rfl, by kernel_rfl⟩
instance : Cal Tryd.prog 35 := ⟨Tryd.f35, Tryd.func35, by kernel_rfl, by kernel_rfl⟩
instance : Cal Tryd.prog 36 := ⟨Tryd.f36, Tryd.func36, by kernel_rfl, by kernel_rfl⟩
instance : Cal Tryd.prog 37 := ⟨Tryd.f37, Tryd.func37, by kernel_rfl, by kernel_rfl⟩
instance : Cal Tryd.prog 38 := ⟨Tryd.f38, Tryd.func38, by kernel_rfl, by kernel_rfl⟩
instance : Cal Tryd.prog 39 := ⟨Tryd.f39, Tryd.func39, by kernel_rfl, by kernel_rfl⟩
instance : Cal Tryd.prog 40 := ⟨Tryd.f40, Tryd.func40, by kernel_rfl, by kernel_rfl⟩
instance : Cal Tryd.prog 41 := ⟨Tryd.f41, Tryd.func41, by kernel_rfl, by kernel_rfl⟩
instance : Cal Tryd.prog 42 := ⟨Tryd.f42, Tryd.func42, by kernel_rfl, by kernel_rfl⟩
instance : Cal Tryd.prog 43 := ⟨Tryd.f43, Tryd.func43, by kernel_rfl, by kernel_rfl⟩
instance : Cal Tryd.prog 44 := ⟨Tryd.f44, Tryd.func44, by kernel_rfl, by kernel_rfl⟩
instance : Cal Tryd.prog 45 := ⟨Tryd.f45, Tryd.func45, by kernel_rfl, by kernel_rfl⟩
instance : Cal Tryd.prog 46 := ⟨Tryd.f46, Tryd.func46, by kernel_rfl, by kernel_rfl⟩
instance : Cal Tryd.prog 47 := ⟨Tryd.f47, Tryd.func47, by kernel_rfl, by kernel_rfl⟩
instance : Cal Tryd.prog 50 := ⟨Tryd.f50, Tryd.func50, by kernel_rfl, by kernel_rfl⟩
instance : Cal Tryd.prog 51 := ⟨Tryd.f51, Tryd.func51, by kernel_rfl, by kernel_rfl⟩
instance : Cal Tryd.prog 52 := ⟨Tryd.f52, Tryd.func52, by kernel_rfl, by kernel_rfl⟩
instance : Cal Tryd.prog 53 := ⟨Tryd.f53, Tryd.func53, by kernel_rfl, by kernel_rfl⟩
instance : Cal Tryd.prog 54 := ⟨Tryd.f54, Tryd.func54, by kernel_rfl, by kernel_rfl⟩
instance : Cal Tryd.prog 55 := ⟨Tryd.f55, Tryd.func55, by kernel_rfl, by kernel_rfl⟩
instance : Cal Tryd.prog 56 := ⟨Tryd.f56, Tryd.func56, by kernel_rfl, by kernel_rfl⟩
instance : Cal Tryd.prog 57 := ⟨Tryd.f57, Tryd.func57, by kernel_rfl, by kernel_rfl⟩
instance : Cal Tryd.prog 58 := ⟨Tryd.f58, Tryd.func58, by kernel_rfl, by kernel_rfl⟩
instance : Cal Tryd.prog 59 := ⟨Tryd.f59, Tryd.func59, by kernel_rfl, by kernel_rfl⟩
instance : Cal Tryd.prog 60 := ⟨Tryd.f60, Tryd.func60, by kernel_rfl, by kernel_rfl⟩
instance : Cal Tryd.prog 61 := ⟨Tryd.f61, Tryd.func61, by kernel_rfl, by kernel_rfl⟩
instance : Cal Tryd.prog 62 := ⟨Tryd.f62, Tryd.func62, by kernel_rfl, by kernel_rfl⟩
instance : Cal Tryd.prog 63 := ⟨Tryd.f63, Tryd.func63, by kernel_rfl, by kernel_rfl⟩
instance : Cal Tryd.prog 64 := ⟨Tryd.f64, Tryd.func64, by kernel_rfl, by kernel_rfl⟩
instance : Cal Tryd.prog 65 := ⟨Tryd.f65, Tryd.func65, by kernel_rfl, by kernel_rfl⟩
instance : Cal Tryd.prog 66 := ⟨Tryd.f66, Tryd.func66, by kernel_rfl, by kernel_rfl⟩
instance : Cal Tryd.prog 67 := ⟨Tryd.f67, Tryd.func67, by kernel_rfl, by kernel_rfl⟩
instance : Cal Tryd.prog 68 := ⟨Tryd.f68, Tryd.func68, by kernel_rfl, by kernel_rfl⟩
instance : Cal Tryd.prog 69 := ⟨Tryd.f69, Tryd.func69, by kernel_rfl, by kernel_rfl⟩
instance : Cal Tryd.prog 70 := ⟨Tryd.f70, Tryd.func70, by kernel_rfl, by kernel_rfl⟩
instance : Cal Tryd.prog 71 := ⟨Tryd.f71, Tryd.func71, by kernel_rfl, by kernel_rfl⟩
instance : Cal Tryd.prog 72 := ⟨Tryd.f72, Tryd.func72, by kernel_rfl, by kernel_rfl⟩
instance : Cal Tryd.prog 73 := ⟨Tryd.f73, Tryd.func73, by kernel_rfl, by kernel_rfl⟩
instance : Cal Tryd.prog 74 := ⟨Tryd.f74, Tryd.func74, by kernel_rfl, by kernel_rfl⟩
instance : Cal Tryd.prog 75 := ⟨Tryd.f75, Tryd.func75, by kernel_rfl, by kernel_rfl⟩
instance : Cal Tryd.prog 76 := ⟨Tryd.f76, Tryd.func76, by kernel_rfl, by kernel_rfl⟩
instance : Cal Tryd.prog 77 := ⟨Tryd.f77, Tryd.func77, by kernel_rfl, by kernel_rfl⟩
instance : Cal Tryd.prog 78 := ⟨Tryd.f78, Tryd.func78, by kernel_rfl, by kernel_rfl⟩
instance : Cal Tryd.prog 79 := ⟨Tryd.f79, Tryd.func79, by kernel_rfl, by kernel_rfl⟩
instance : Cal Tryd.prog 80 := ⟨Tryd.f80, Tryd.func80, by kernel_rfl, by kernel_rfl⟩
instance : Cal Tryd.prog 81 := ⟨Tryd.f81, Tryd.func81, by kernel_rfl, by kernel_rfl⟩
instance : Cal Tryd.prog 82 := ⟨Tryd.f82, Tryd.func82, by kernel_rfl, by kernel_rfl⟩
instance : Cal Tryd.prog 83 := ⟨Tryd.f83, Tryd.func83, by kernel_rfl, by kernel_rfl⟩
instance : Cal Tryd.prog 84 := ⟨Tryd.f84, Tryd.func84, by kernel_rfl, by kernel_rfl⟩
instance : Cal Tryd.prog 85 := ⟨Tryd.f85, Tryd.func85, by kernel_rfl, by kernel_rfl⟩
instance : Cal Tryd.prog 86 := ⟨Tryd.f86, Tryd.func86, by kernel_rfl, by kernel_rfl⟩
instance : Cal Tryd.prog 87 := ⟨Tryd.f87, Tryd.func87, by kernel_rfl, by kernel_rfl⟩
instance : Cal Tryd.prog 88 := ⟨Tryd.f88, Tryd.func88, by kernel_rfl, by kernel_rfl⟩
instance : Cal Tryd.prog 89 := ⟨Tryd.f89, Tryd.func89, by kernel_rfl, by kernel_rfl⟩
instance : Cal Tryd.prog 90 := ⟨Tryd.f90, Tryd.func90, by kernel_rfl, by kernel_rfl⟩
instance : Cal Tryd.prog 117 := ⟨Tryd.f117, Tryd.func117, by kernel_rfl, by kernel_rfl⟩
instance : A64 Tryd.prog 48 := A64.mk' Tryd.func48 (by kernel_rfl) (by kernel_rfl) (by kernel_rfl) (by kernel_rfl)
instance : S64 Tryd.prog 49 := S64.mk' Tryd.func49 (by kernel_rfl) (by kernel_rfl) (by kernel_rfl) (by kernel_rfl)
end Go.Proofs.YtpcechnalfaajaaDoor

/- Numbers of 128 bits as cells. -/
namespace Go.Proofs.YtpcechnalfaajaaDoor
open Go Go.Proofs

abbrev Num := BitVec 128
/-- A number's cells. -/
def nm (x : Num) : List Value := [.int .u64 ((x.toNat / 18446744073709551616 : Nat) : Int), .int .u64 ((x.toNat % 18446744073709551616 : Nat) : Int)]
@[simp] theorem nm_len (x : Num) : (nm x).length = 2 := rfl
@[simp] theorem nm_one (x : Num) : one (nm x) = true := rfl
theorem Num.lt (x : Num) : x.toNat < 340282366920938463463374607431768211456 := x.isLt
theorem rowEq_nm (a b : Num) : rowEq (nm a) (nm b) = decide (a = b) := by
  have ha := a.lt
  have hb := b.lt
  have e : (a = b) ↔ (a.toNat = b.toNat) := BitVec.toNat_eq
  rw [Bool.eq_iff_iff]
  simp only [rowEq, nm, cellEq, Bool.and_true, Bool.and_eq_true, beq_iff_eq, decide_eq_true_eq, e]
  omega
theorem nm_of {hi lo : Int} (n : Nat) (hn : n < 340282366920938463463374607431768211456) (h1 : hi = ((n / 18446744073709551616 : Nat) : Int)) (h2 : lo = ((n % 18446744073709551616 : Nat) : Int)) : [Value.int .u64 hi, .int .u64 lo] = nm (BitVec.ofNat 128 n) := by
  subst h1 h2
  simp [nm, Nat.mod_eq_of_lt hn]
theorem nm_ofNat {n : Nat} (hn : n < 340282366920938463463374607431768211456) : (BitVec.ofNat 128 n).toNat = n := by
  simp [Nat.mod_eq_of_lt hn]

theorem flat_get {α : Type} (enc : α → List Value) (m : Nat) (hm : ∀ x, (enc x).length = m) : ∀ (xs : List α) (i k t : Nat) (agg : Bool) (v : Value) (h : i < xs.length), getV agg (enc xs[i]) k t = some v → getV agg (xs.flatMap enc) (i * m + k) t = some v := by
  intro xs
  induction xs with
  | nil => intro i k t agg v h; simp at h
  | cons x r ih =>
    intro i k t agg v h hv
    cases i with
    | zero =>
      have := getV_shift (agg := agg) (pre := []) (sp := r.flatMap enc) (by simpa using hv)
      simpa using this
    | succ i =>
      have h1 := ih i k t agg v (by simpa using h) (by simpa using hv)
      have := getV_shift (agg := agg) (pre := enc x) (sp := []) h1
      rw [hm] at this
      rw [show (i + 1) * m + k = m + (i * m + k) by rw [Nat.succ_mul]; omega]
      simpa using this
theorem flat_len {α : Type} (enc : α → List Value) (m : Nat) (hm : ∀ x, (enc x).length = m) (xs : List α) : (xs.flatMap enc).length = xs.length * m := by
  induction xs with
  | nil => simp
  | cons x r ih => simp [ih, hm, Nat.succ_mul, Nat.add_comm]



theorem flat_take {α : Type} (enc : α → List Value) (m : Nat) (hm : ∀ x, (enc x).length = m) : ∀ (xs : List α) (k : Nat), (xs.take k).flatMap enc = (xs.flatMap enc).take (k * m) := by
  intro xs
  induction xs with
  | nil => intro k; simp
  | cons x r ih =>
    intro k
    cases k with
    | zero => simp
    | succ k =>
      have e : (k + 1) * m - (enc x).length = k * m := by rw [hm, Nat.succ_mul]; omega
      have e2 : (enc x).take ((k + 1) * m) = enc x := List.take_of_length_le (by rw [hm, Nat.succ_mul]; omega)
      rw [List.take_succ_cons, List.flatMap_cons, List.flatMap_cons, ih k, List.take_append, e, e2]
theorem flat_drop {α : Type} (enc : α → List Value) (m : Nat) (hm : ∀ x, (enc x).length = m) : ∀ (xs : List α) (k : Nat), (xs.drop k).flatMap enc = (xs.flatMap enc).drop (k * m) := by
  intro xs
  induction xs with
  | nil => intro k; simp
  | cons x r ih =>
    intro k
    cases k with
    | zero => simp
    | succ k =>
      have e : (k + 1) * m - (enc x).length = k * m := by rw [hm, Nat.succ_mul]; omega
      have e2 : (enc x).drop ((k + 1) * m) = [] := List.drop_of_length_le (by rw [hm, Nat.succ_mul]; omega)
      rw [List.drop_succ_cons, List.flatMap_cons, ih k, List.drop_append, e, e2, List.nil_append]
section
variable {ops : Array Oper} {Q : Exit → Act → World → Prop} {n : Nd} {κ : Kap} {rest : List Oper} {l : List Oper} {L : List Nat} {W : List (Nat × Nat × List Value)} {fuel : Nat} {done : List Nat} {fr : List (Nat × Value)} {cs : List HProp} {is : List Nat} {pend : List Pd}
variable {d : Nat} {op : Op} {ty : TypeId} {pos : String} {af : Array Edge} {g : Option (Nat × Bool)} {U : TypeId} {x y : Operand}
theorem fit_nm (a : Num) : fitT Tryd.prog 20 24 (nm a) = true := by kernel_rfl
/-- Two numbers of 128 bits. -/
theorem OpQ.eqn (a b : Num) (h : ev fr x = some (.agg (nm a).toArray) ∧ ev fr y = some (.agg (nm b).toArray)) : OpQ Tryd.prog n ⟨some d, .binOp .eql 24 x y U, ty, pos, af, g⟩ fr (.bool (decide (a = b))) := by
  rw [← rowEq_nm]; exact .eqs h.1 h.2 ⟨rfl, fit_nm a⟩ ⟨rfl, fit_nm b⟩
theorem OpQ.nen (a b : Num) (h : ev fr x = some (.agg (nm a).toArray) ∧ ev fr y = some (.agg (nm b).toArray)) : OpQ Tryd.prog n ⟨some d, .binOp .neq 24 x y U, ty, pos, af, g⟩ fr (.bool (!decide (a = b))) := by
  rw [← rowEq_nm]; exact .nes h.1 h.2 ⟨rfl, fit_nm a⟩ ⟨rfl, fit_nm b⟩
theorem St.eqn (a b : Num) (kk : St Tryd.prog ops Q n κ rest ((d, .bool (decide (a = b))) :: fr) cs) (h : ev fr x = some (.agg (nm a).toArray) ∧ ev fr y = some (.agg (nm b).toArray) := by exact ⟨rfl, rfl⟩) (hd : Nat.blt d n.n = true := by rfl) (hw : wantedF ops fr g true = true := by rfl) :
    St Tryd.prog ops Q n κ (⟨some d, .binOp .eql 24 x y U, ty, pos, af, g⟩ :: rest) fr cs := .q (.eqn a b h) kk hd hw
theorem St.nen (a b : Num) (kk : St Tryd.prog ops Q n κ rest ((d, .bool (!decide (a = b))) :: fr) cs) (h : ev fr x = some (.agg (nm a).toArray) ∧ ev fr y = some (.agg (nm b).toArray) := by exact ⟨rfl, rfl⟩) (hd : Nat.blt d n.n = true := by rfl) (hw : wantedF ops fr g true = true := by rfl) :
    St Tryd.prog ops Q n κ (⟨some d, .binOp .neq 24 x y U, ty, pos, af, g⟩ :: rest) fr cs := .q (.nen a b h) kk hd hw
theorem Sd.eqn (i : Nat) (a b : Num) (kk : Sd Tryd.prog l Q L W n κ fuel (i :: done) ((d, .bool (decide (a = b))) :: fr) cs) (hi : getO l i = some ⟨some d, .binOp .eql 24 x y U, ty, pos, af, g⟩ := by rfl) (h : ev fr x = some (.agg (nm a).toArray) ∧ ev fr y = some (.agg (nm b).toArray) := by exact ⟨rfl, rfl⟩) (hd : Nat.blt d n.n = true := by rfl) (hw : wantedF l.toArray fr g true = true := by rfl) (hchk : chkQ l done i = true := by kernel_rfl) :
    Sd Tryd.prog l Q L W n κ (fuel + 1) done fr cs := .q i hi (.eqn a b h) kk hd hw hchk
theorem Sd.nen (i : Nat) (a b : Num) (kk : Sd Tryd.prog l Q L W n κ fuel (i :: done) ((d, .bool (!decide (a = b))) :: fr) cs) (hi : getO l i = some ⟨some d, .binOp .neq 24 x y U, ty, pos, af, g⟩ := by rfl) (h : ev fr x = some (.agg (nm a).toArray) ∧ ev fr y = some (.agg (nm b).toArray) := by exact ⟨rfl, rfl⟩) (hd : Nat.blt d n.n = true := by rfl) (hw : wantedF l.toArray fr g true = true := by rfl) (hchk : chkQ l done i = true := by kernel_rfl) :
    Sd Tryd.prog l Q L W n κ (fuel + 1) done fr cs := .q i hi (.nen a b h) kk hd hw hchk
/-- Two bools. -/
theorem OpQ.neb {a b : Bool} (hx : ev fr x = some (.bool a)) (hy : ev fr y = some (.bool b)) : OpQ Tryd.prog n ⟨some d, .binOp .neq 4 x y U, ty, pos, af, g⟩ fr (.bool (!(a == b))) := by
  intro s w hf
  have hu : (Tryd.prog).underlying 4 = some .bool := by kernel_rfl
  have hr : (Op.equal 4 (.bool a) (.bool b)).run Tryd.prog w = .ok (a == b) w := run_equalIn_bool w 9999 4 a b hu
  simp [execOp, hf.eval hx, hf.eval hy, eqGuard, binOp, hr]
theorem OpQ.eqb {a b : Bool} (hx : ev fr x = some (.bool a)) (hy : ev fr y = some (.bool b)) : OpQ Tryd.prog n ⟨some d, .binOp .eql 4 x y U, ty, pos, af, g⟩ fr (.bool (a == b)) := by
  intro s w hf
  have hu : (Tryd.prog).underlying 4 = some .bool := by kernel_rfl
  have hr : (Op.equal 4 (.bool a) (.bool b)).run Tryd.prog w = .ok (a == b) w := run_equalIn_bool w 9999 4 a b hu
  simp [execOp, hf.eval hx, hf.eval hy, eqGuard, binOp, hr]
theorem St.neb {a b : Bool} (kk : St Tryd.prog ops Q n κ rest ((d, .bool (!(a == b))) :: fr) cs) (h : ev fr x = some (.bool a) ∧ ev fr y = some (.bool b) := by exact ⟨rfl, rfl⟩) (hd : Nat.blt d n.n = true := by rfl) (hw : wantedF ops fr g true = true := by rfl) :
    St Tryd.prog ops Q n κ (⟨some d, .binOp .neq 4 x y U, ty, pos, af, g⟩ :: rest) fr cs := .q (.neb h.1 h.2) kk hd hw
theorem St.eqb {a b : Bool} (kk : St Tryd.prog ops Q n κ rest ((d, .bool (a == b)) :: fr) cs) (h : ev fr x = some (.bool a) ∧ ev fr y = some (.bool b) := by exact ⟨rfl, rfl⟩) (hd : Nat.blt d n.n = true := by rfl) (hw : wantedF ops fr g true = true := by rfl) :
    St Tryd.prog ops Q n κ (⟨some d, .binOp .eql 4 x y U, ty, pos, af, g⟩ :: rest) fr cs := .q (.eqb h.1 h.2) kk hd hw
theorem Sd.neb (i : Nat) {a b : Bool} (kk : Sd Tryd.prog l Q L W n κ fuel (i :: done) ((d, .bool (!(a == b))) :: fr) cs) (hi : getO l i = some ⟨some d, .binOp .neq 4 x y U, ty, pos, af, g⟩ := by rfl) (h : ev fr x = some (.bool a) ∧ ev fr y = some (.bool b) := by exact ⟨rfl, rfl⟩) (hd : Nat.blt d n.n = true := by rfl) (hw : wantedF l.toArray fr g true = true := by rfl) (hchk : chkQ l done i = true := by kernel_rfl) :
    Sd Tryd.prog l Q L W n κ (fuel + 1) done fr cs := .q i hi (.neb h.1 h.2) kk hd hw hchk
/-- By a bool that stands in the frame. -/
theorem Sd.caseB {P : Program} (t : Nat) {b : Bool} (e : look fr t = some (.bool b)) (h1 : b = true → Sd P l Q L W n κ fuel done ((t, .bool true) :: fr) cs)
    (h2 : b = false → Sd P l Q L W n κ fuel done ((t, .bool false) :: fr) cs) : Sd P l Q L W n κ fuel done fr cs := by
  intro a w hf hs
  have hw : ∀ b', b = b' → Fr n a ((t, .bool b') :: fr) := by
    intro b' hb
    refine hf.weaken fun d v hl => ?_
    simp only [look] at hl
    cases hc : Nat.beq t d with
    | true => have := Nat.eq_of_beq_eq_true hc; subst this; simp at hl; rw [e, hb, hl]
    | false => simpa [hc] using hl
  cases b with
  | true => exact h1 rfl a w (hw true rfl) hs
  | false => exact h2 rfl a w (hw false rfl) hs
end
end Go.Proofs.YtpcechnalfaajaaDoor
