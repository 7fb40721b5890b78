/- Part 1 of the proof: Sl7, Sl8, Sl9, Sl10, Sl11, Sl12. -/
import Derived.Test.YtpcechnalfaajaaDoorP0
import Derived.OrdersHeld
import Derived.Laws.StructEq
import Derived.ChangeKeysEq
/- Regions that draw their order: what only reads may be taken first. -/
namespace Go.Proofs.YtpcechnalfaajaaDoor
open Go

/-- A part of a row that reads so. -/
def HoldsAt (w : World) (x : Nat × Nat × List Value) : Prop := x.2.2 ≠ [] → ∃ T pre sp fz, pre.length = x.2.1 ∧ w.heap[x.1]? = some (.cells (pre ++ (x.2.2 ++ sp)).toArray T fz)
/-- All of these read so in what is owned. -/
class WOk (cs : List HProp) (W : List (Nat × Nat × List Value)) : Prop where
  out : ∀ {κ w}, Sat κ w cs → ∀ x ∈ W, HoldsAt w x
instance WOk.nil {cs : List HProp} : WOk cs [] := ⟨fun _ _ h => by cases h⟩
instance WOk.cons {cs : List HProp} {b o : Nat} {l : List Value} {W : List (Nat × Nat × List Value)} [h1 : RdAt b cs o l] [h2 : WOk cs W] : WOk cs ((b, o, l) :: W) :=
  ⟨fun {κ w} hs x hx => by
    rcases List.mem_cons.1 hx with rfl | hx
    · intro hl; exact h1.out hs hl
    · exact h2.out hs x hx⟩

/-- Whatever order is picked, and behind every operation either the world is as it was or 'S' holds. -/
def wpM (P : Program) (ops : Array Oper) (Q : Exit → Act → World → Prop) (S : Nat → World → Prop) : Nat → Array Bool → Act → World → Prop
  | 0, listed, a, w => Region.ready .any ops listed = [] ∧ Q .normal a w
  | fuel + 1, listed, a, w => (Region.ready .any ops listed = [] → Q .normal a w) ∧
    ∀ i ∈ Region.ready .any ops listed, wpOpY P ops Q i (fun a' w' => (w' = w ∨ S i w') ∧ wpM P ops Q S fuel (listed.setIfInBounds i true) a' w') a w
section
variable {P : Program} {ops : Array Oper} {Q : Exit → Act → World → Prop} {S : Nat → World → Prop}
theorem wpAny_of_M : ∀ (fuel : Nat) (listed : Array Bool) (a : Act) (w : World), wpM P ops Q S fuel listed a w → wpAnyY P ops Q fuel listed a w
  | 0, _, _, _, h => h
  | fuel + 1, _, _, _, h => ⟨h.1, fun i hi => wpOpY_mono (fun a' w' h' => wpAny_of_M fuel _ a' w' h'.2) (h.2 i hi)⟩

theorem wpM_first {I : World → Prop} {i : Nat} {oi : Oper} {v : Value} (Dp : Array Bool → Prop) (hi : ops[i]? = some oi) (hsel : ∀ (j : Nat) (o : Oper) cs b, ops[j]? = some o → o.op ≠ .select cs b)
    (hQ : ∀ c a w, Q (.panic c) (a.put oi.dst v) w → Q (.panic c) a w) (hstep : ∀ listed j, Dp listed → j ∈ Region.ready .any ops listed → Dp (listed.setIfInBounds j true))
    (hlate : ∀ listed, Dp listed → listed.getD i true = false → ∀ j, j ∈ Region.ready .any ops listed → j ≠ i → ∀ w, S j w → I w) :
    ∀ (fuel : Nat) (listed : Array Bool) (a : Act) (w : World), Dp listed →
      (∀ j oj, ops[j]? = some oj → j ≠ i → listed.getD j true = false → (∀ e ∈ oj.after, Region.binds .any e = true → e.on ≠ i) → oi.apart ops oj = true) →
      i ∈ Region.ready .any ops listed → YieldsIf P ops I oi v a → I w →
      wpM P ops Q S fuel (listed.setIfInBounds i true) (a.put oi.dst v) w → wpM P ops Q S (fuel + 1) listed a w := by
  intro fuel
  induction fuel with
  | zero =>
    intro listed a w _ _ hr hy hS H
    refine ⟨fun h => (by rw [h] at hr; cases hr), fun j hj => ?_⟩
    by_cases hji : j = i
    · subst hji; exact yieldsY hi hy hS ⟨.inl rfl, H⟩
    · have := ready_mono hj hji
      rw [H.1] at this
      cases this
  | succ fuel ih =>
    intro listed a w hD hfree hr hy hS H
    refine ⟨fun h => (by rw [h] at hr; cases hr), fun j hj => ?_⟩
    by_cases hji : j = i
    · subst hji; exact yieldsY hi hy hS ⟨.inl rfl, H⟩
    · have h1 := H.2 j (ready_mono hj hji)
      obtain ⟨hjun, oj, hoj, hall⟩ := mem_ready.1 hj
      have hnot : ∀ e ∈ oj.after, Region.binds .any e = true → e.on ≠ i := fun e he hb heq => by
        have h1 := hall e he hb
        have h0 := (mem_ready.1 hr).1
        rw [heq] at h1
        rcases Nat.lt_or_ge i listed.size with h' | h'
        · simp [h'] at h0 h1; rw [h0] at h1; cases h1
        · simp [Array.getElem?_eq_none h'] at h1
      have hap := hfree j oj hoj hji hjun hnot
      have hSI := hlate listed hD (mem_ready.1 hr).1 j hj hji
      have h2 := wpOpY_put hoj hap (fun cs b => hsel i oi cs b hi) (fun cs b => hsel j oj cs b hoj) hQ hy h1
      have hfree' : ∀ k ok, ops[k]? = some ok → k ≠ i → (listed.setIfInBounds j true).getD k true = false →
          (∀ e ∈ ok.after, Region.binds .any e = true → e.on ≠ i) → oi.apart ops ok = true := fun k ok hk hki hun hno => by
        refine hfree k ok hk hki ?_ hno
        by_cases hjk : j = k
        · subst hjk; exact hjun
        · rw [getD_set_ne true hjk] at hun; exact hun
      refine wpOpY_mono (fun a' w' h3 => ⟨h3.2.1, ih (listed.setIfInBounds j true) a' w' (hstep listed j hD hj) hfree' (ready_mono hr (Ne.symm hji)) h3.1 ?_ ?_⟩) h2
      · rcases h3.2.1 with rfl | h; exact hS; exact hSI w' h
      · rw [Array.setIfInBounds_comm _ _ hji]
        exact h3.2.2
end

def NoP (Q : Exit → Act → World → Prop) : Exit → Act → World → Prop
  | .panic _, _, _ => False
  | e, a, w => Q e a w
theorem NoP.imp {Q : Exit → Act → World → Prop} (e : Exit) (a : Act) (w : World) (h : NoP Q e a w) : Q e a w := by
  cases e <;> first | exact h | exact h.elim

def getO : List Oper → Nat → Option Oper
  | [], _ => none
  | o :: _, 0 => some o
  | _ :: t, i + 1 => getO t i
theorem getO_eq : ∀ (l : List Oper) (i : Nat), getO l i = l.toArray[i]? := by
  intro l
  induction l with
  | nil => intro i; simp [getO]
  | cons x t ih => intro i; cases i with
    | zero => simp [getO]
    | succ i => simpa [getO] using ih i

def memb : Nat → List Nat → Bool
  | _, [] => false
  | i, x :: t => bif Nat.beq i x then true else memb i t
/-- The watch behind operation 'j': none behind the late ones. -/
def Wt (L : List Nat) (W : List (Nat × Nat × List Value)) (j : Nat) (w : World) : Prop := memb j L = false → ∀ x ∈ W, HoldsAt w x

def listedBy (n : Nat) : List Nat → Array Bool
  | [] => Array.replicate n false
  | i :: t => (listedBy n t).setIfInBounds i true

/-- The walk of a region that draws: 'done' are those that were taken. -/
def Sd (P : Program) (l : List Oper) (Q : Exit → Act → World → Prop) (L : List Nat) (W : List (Nat × Nat × List Value)) (n : Nd) (κ : Kap) (fuel : Nat) (done : List Nat) (fr : List (Nat × Value)) (cs : List HProp) : Prop :=
  ∀ a w, Fr n a fr → Sat κ w cs → wpM P l.toArray (NoP Q) (Wt L W) fuel (listedBy l.length done) a w

def chkQ (l : List Oper) (done : List Nat) (i : Nat) : Bool :=
  Region.noSelect l.toArray && Region.free .any l.toArray (listedBy l.length done) i && (Region.ready .any l.toArray (listedBy l.length done)).contains i
/-- What waits for operation 'i', by way of others too. -/
def depsGo : List Oper → Nat → List Nat → List Nat
  | [], _, acc => acc
  | o :: t, k, acc => bif o.after.any fun e => Region.binds .any e && memb e.on acc then depsGo t (k + 1) (k :: acc) else depsGo t (k + 1) acc
/-- What was taken had all that it waits for. -/
def closedB (l : List Oper) (done : List Nat) : Bool := done.all fun k => match getO l k with
  | none => true
  | some o => o.after.all fun e => !Region.binds .any e || memb e.on done
/-- And no late operation may come ahead of it. -/
def chkL (l : List Oper) (done : List Nat) (L : List Nat) (i : Nat) : Bool :=
  chkQ l done i && (L.isEmpty || closedB l done && L.all fun j => Nat.beq j i || memb j done || memb j (depsGo l 0 [i]))
def DC (ops : Array Oper) (listed : Array Bool) : Prop := ∀ k ok, ops[k]? = some ok → listed.getD k true = true → ∀ e ∈ ok.after, Region.binds .any e = true → listed.getD e.on true = true

theorem memb_iff {j : Nat} : ∀ {L : List Nat}, memb j L = true ↔ j ∈ L := by
  intro L
  induction L with
  | nil => simp [memb]
  | cons x t ih =>
    simp only [memb]
    cases hb : Nat.beq j x with
    | true => have := Nat.eq_of_beq_eq_true hb; subst this; simp
    | false =>
      have : j ≠ x := fun k => by subst k; simp [Nat.beq_refl] at hb
      simp [ih, this]
theorem getD_ft {listed : Array Bool} {k : Nat} (h : listed.getD k false = true) : listed.getD k true = true := by
  rcases Nat.lt_or_ge k listed.size with h' | h'
  · simp [h'] at h ⊢; exact h
  · simp [Array.getElem?_eq_none h'] at h
theorem getD_tf {listed : Array Bool} {k : Nat} (h : listed.getD k true = false) : listed.getD k false = false := by
  rcases Nat.lt_or_ge k listed.size with h' | h'
  · simp [h'] at h ⊢; exact h
  · simp [Array.getElem?_eq_none h'] at h
theorem DC.step {ops : Array Oper} {listed : Array Bool} {j : Nat} (h : DC ops listed) (hj : j ∈ Region.ready .any ops listed) : DC ops (listed.setIfInBounds j true) := by
  intro k ok hk hl e he hb
  have up : listed.getD e.on true = true → (listed.setIfInBounds j true).getD e.on true = true := by
    intro h
    by_cases hje : j = e.on
    · subst hje
      rcases Nat.lt_or_ge e.on listed.size with h' | h'
      · simp [h']
      · simp
    · rw [getD_set_ne true hje]; exact h
  by_cases hjk : j = k
  · subst hjk
    obtain ⟨_, o, ho, hall⟩ := mem_ready.1 hj
    rw [hk] at ho; cases ho
    exact up (getD_ft (hall e he hb))
  · rw [getD_set_ne true hjk] at hl
    exact up (h k ok hk hl e he hb)
theorem deps_blocked {ops : Array Oper} {listed : Array Bool} {i : Nat} (hdc : DC ops listed) : ∀ (t : List Oper) (k : Nat) (acc : List Nat), (∀ j o, t[j]? = some o → ops[k + j]? = some o) →
    (∀ j ∈ acc, listed.getD j true = false ∧ (j ≠ i → j ∉ Region.ready .any ops listed)) → ∀ j ∈ depsGo t k acc, listed.getD j true = false ∧ (j ≠ i → j ∉ Region.ready .any ops listed) := by
  intro t
  induction t with
  | nil => intro k acc _ h j hj; exact h j hj
  | cons o t ih =>
    intro k acc ho h j hj
    have ho0 : ops[k]? = some o := by simpa using ho 0 o rfl
    have ho' : ∀ j o', t[j]? = some o' → ops[k + 1 + j]? = some o' := fun j o' hj => by have := ho (j + 1) o' (by simpa using hj); rw [show k + 1 + j = k + (j + 1) by omega]; exact this
    simp only [depsGo] at hj
    cases hc : (o.after.any fun e => Region.binds .any e && memb e.on acc) with
    | false => rw [hc] at hj; exact ih (k + 1) acc ho' h j hj
    | true =>
      rw [hc] at hj
      refine ih (k + 1) (k :: acc) ho' ?_ j hj
      rw [Array.any_eq_true] at hc
      obtain ⟨x, hx, hc⟩ := hc
      simp only [Bool.and_eq_true] at hc
      have hm := h _ (memb_iff.1 hc.2)
      intro j' hj'
      rcases List.mem_cons.1 hj' with rfl | hj'
      · refine ⟨?_, fun _ hr => ?_⟩
        · cases hl : listed.getD j' true with
          | false => rfl
          | true => have := hdc j' o ho0 hl _ (Array.getElem_mem hx) hc.1; rw [hm.1] at this; cases this
        · obtain ⟨_, o', ho'', hall⟩ := mem_ready.1 hr
          rw [ho0] at ho''; cases ho''
          have := hall _ (Array.getElem_mem hx) hc.1
          rw [getD_tf hm.1] at this; cases this
      · exact h j' hj'
theorem listedBy_mem {n : Nat} : ∀ {done : List Nat} {k : Nat}, k < n → ((listedBy n done).getD k true = true ↔ k ∈ done) := by
  intro done
  induction done with
  | nil => intro k hk; simp [listedBy, hk]
  | cons i t ih =>
    intro k hk
    show ((listedBy n t).setIfInBounds i true).getD k true = true ↔ _
    by_cases hik : i = k
    · subst hik
      have hs : ∀ t : List Nat, (listedBy n t).size = n := by
        intro t; induction t with
        | nil => simp [listedBy]
        | cons i t ih => simp [listedBy, ih]
      simp [hs, hk]
    · rw [getD_set_ne true hik, ih hk]
      constructor
      · exact fun h => List.mem_cons_of_mem _ h
      · intro h; rcases List.mem_cons.1 h with rfl | h
        · exact absurd rfl hik
        · exact h
theorem closedB_DC {l : List Oper} {done : List Nat} (h : closedB l done = true) : DC l.toArray (listedBy l.length done) := by
  intro k ok hk hl e he hb
  have hlt : k < l.length := by
    rcases Nat.lt_or_ge k l.length with h' | h'
    · exact h'
    · rw [Array.getElem?_eq_none (by simpa using h')] at hk; cases hk
  have hm := (listedBy_mem hlt).1 hl
  simp only [closedB, List.all_eq_true] at h
  have h2 := h k hm
  rw [getO_eq, hk] at h2
  simp only [Array.all_eq_true] at h2
  obtain ⟨idx, hidx, rfl⟩ := Array.getElem_of_mem he
  have h3 := h2 idx hidx
  rw [hb] at h3
  have hmem : ok.after[idx].on ∈ done := memb_iff.1 (by simpa using h3)
  rcases Nat.lt_or_ge ok.after[idx].on l.length with h' | h'
  · exact (listedBy_mem h').2 hmem
  · have hs : ∀ t : List Nat, (listedBy l.length t).size = l.length := by
      intro t; induction t with
      | nil => simp [listedBy]
      | cons i t ih => simp [listedBy, ih]
    rw [Array.getD_eq_getD_getElem?, Array.getElem?_eq_none (by rw [hs]; exact h')]; rfl

section
variable {P : Program} {l : List Oper} {Q : Exit → Act → World → Prop} {L : List Nat} {W : List (Nat × Nat × List Value)} {n : Nd} {κ : Kap} {fuel : Nat} {done : List Nat} {fr : List (Nat × Value)} {cs : List HProp}
variable {d : Nat} {op : Op} {ty : TypeId} {pos : String} {af : Array Edge} {g : Option (Nat × Bool)}

theorem Co.regD {id : Nat} (W : List (Nat × Nat × List Value)) (L : List Nat) (k : Sd P l Q L W n κ l.length [] fr cs) (hm : P.follows .mixedOrders = true := by kernel_rfl) : Co P Q n κ (.region id l.toArray true) fr cs := by
  intro a w hf hs
  have : (Code.region id l.toArray true).wp P (NoP Q) a w := wp_region_anyY hm (wpAny_of_M _ _ _ _ (by
    have := k a { w with drawn := w.drawn + 1 } hf (hs.drawn _)
    simpa [listedBy] using this))
  exact wp_mono this NoP.imp

theorem Sd.hoist {i : Nat} {o : Oper} {v : Value} (I : World → Prop) (Dp : Array Bool → Prop) (hi : getO l i = some o) (hchk : chkQ l done i = true) {a : Act} {w : World}
    (hy : YieldsIf P l.toArray I o v a) (hI : I w) (hD : Dp (listedBy l.length done)) (hstep : ∀ listed j, Dp listed → j ∈ Region.ready .any l.toArray listed → Dp (listed.setIfInBounds j true))
    (hW : ∀ listed, Dp listed → listed.getD i true = false → ∀ j, j ∈ Region.ready .any l.toArray listed → j ≠ i → ∀ w, Wt L W j w → I w)
    (H : wpM P l.toArray (NoP Q) (Wt L W) fuel (listedBy l.length (i :: done)) (a.put o.dst v) w) : wpM P l.toArray (NoP Q) (Wt L W) (fuel + 1) (listedBy l.length done) a w := by
  have hi' : l.toArray[i]? = some o := by rw [← getO_eq]; exact hi
  simp only [chkQ, Bool.and_eq_true] at hchk
  obtain ⟨⟨h1, h2⟩, h3⟩ := hchk
  exact wpM_first (I := I) Dp hi' (Region.noSelect_spec h1) (fun c a w h => h.elim) hstep hW fuel _ a w hD (fun j oj hj hji hun hno => Region.free_spec hi' h2 j oj hj hji hun hno) (by simpa using h3) hy hI H

theorem Sd.q {v : Value} (i : Nat) (hi : getO l i = some ⟨some d, op, ty, pos, af, g⟩) (h : OpQ P n ⟨some d, op, ty, pos, af, g⟩ fr v) (k : Sd P l Q L W n κ fuel (i :: done) ((d, v) :: fr) cs)
    (hd : Nat.blt d n.n = true) (hw : wantedF l.toArray fr g true = true) (hchk : chkQ l done i = true) : Sd P l Q L W n κ (fuel + 1) done fr cs := by
  intro a w hf hs
  refine Sd.hoist (fun _ => True) (fun _ => True) hi hchk (v := v) (.inl ⟨wanted_of (o := ⟨some d, op, ty, pos, af, g⟩) hf hw, fun w _ => h a w hf⟩) trivial trivial (fun _ _ _ _ => trivial) (fun _ _ _ _ _ _ _ _ => trivial) ?_
  exact k _ _ (hf.put hd) hs
theorem Sd.skip (i : Nat) (k : Sd P l Q L W n κ fuel (i :: done) ((d, undef) :: fr) cs) (hi : getO l i = some ⟨some d, op, ty, pos, af, g⟩ := by rfl)
    (hd : Nat.blt d n.n = true := by rfl) (hw : wantedF l.toArray fr g false = true := by rfl) (hchk : chkQ l done i = true := by kernel_rfl) : Sd P l Q L W n κ (fuel + 1) done fr cs := by
  intro a w hf hs
  refine Sd.hoist (fun _ => True) (fun _ => True) hi hchk (v := undef) (.inr ⟨unwanted_of (o := ⟨some d, op, ty, pos, af, g⟩) hf hw, rfl⟩) trivial trivial (fun _ _ _ _ => trivial) (fun _ _ _ _ _ _ _ _ => trivial) ?_
  exact k _ _ (hf.put hd) hs
/-- What is so of the taken ones as long as a load waits. -/
def DpL (l : List Oper) (done L : List Nat) (listed : Array Bool) : Prop := L = [] ∨ (DC l.toArray listed ∧ ∀ k, (listedBy l.length done).getD k true = true → listed.getD k true = true)
theorem DpL.init {i : Nat} (h : chkL l done L i = true) : DpL l done L (listedBy l.length done) := by
  simp only [chkL, Bool.and_eq_true, Bool.or_eq_true] at h
  rcases h.2 with h | h
  · exact .inl (by simpa using h)
  · exact .inr ⟨closedB_DC h.1, fun _ h => h⟩
theorem DpL.step {listed : Array Bool} {j : Nat} (h : DpL l done L listed) (hj : j ∈ Region.ready .any l.toArray listed) : DpL l done L (listed.setIfInBounds j true) := by
  rcases h with h | ⟨h1, h2⟩
  · exact .inl h
  · refine .inr ⟨h1.step hj, fun k hk => ?_⟩
    by_cases hjk : j = k
    · subst hjk
      rcases Nat.lt_or_ge j listed.size with h' | h'
      · simp [h']
      · simp
    · rw [getD_set_ne true hjk]; exact h2 k hk
theorem chkL_late {i j : Nat} (h : chkL l done L i = true) {listed : Array Bool} (hD : DpL l done L listed) (hun : listed.getD i true = false) (hj : j ∈ Region.ready .any l.toArray listed) (hji : j ≠ i) : memb j L = false := by
  cases hm : memb j L with
  | false => rfl
  | true =>
    have hmem := memb_iff.1 hm
    rcases hD with rfl | ⟨hdc, hsup⟩
    · cases hmem
    · simp only [chkL, Bool.and_eq_true, Bool.or_eq_true] at h
      rcases h.2 with h | h
      · simp at h; subst h; cases hmem
      · have h2 := List.all_eq_true.1 h.2 j hmem
        simp only [Bool.or_eq_true] at h2
        rcases h2 with (hb | hb) | hb
        · exact absurd (Nat.eq_of_beq_eq_true hb) hji
        · obtain ⟨hjun, oj, hoj, _⟩ := mem_ready.1 hj
          have hlt : j < l.length := by
            rcases Nat.lt_or_ge j l.length with h' | h'
            · exact h'
            · rw [Array.getElem?_eq_none (by simpa using h')] at hoj; cases hoj
          have := hsup j ((listedBy_mem hlt).2 (memb_iff.1 hb))
          rw [hjun] at this; cases this
        · have := deps_blocked (i := i) hdc l 0 [i] (fun j o h => by simpa using h) (fun j' hj' => by
            have : j' = i := by simpa using hj'
            subst this
            exact ⟨hun, fun h => absurd rfl h⟩) j (memb_iff.1 hb)
          exact absurd hj (this.2 hji)

/-- A load, out of what is watched. -/
theorem Sd.a {v : Value} {b o : Nat} {r : List Value} (i : Nat) (hi : getO l i = some ⟨some d, op, ty, pos, af, g⟩) [hr : RdAt b cs o r] (hm : (b, o, r) ∈ W) (h : OpA P n ⟨some d, op, ty, pos, af, g⟩ fr b o r v)
    (k : Sd P l Q L W n κ fuel (i :: done) ((d, v) :: fr) cs)
    (hd : Nat.blt d n.n = true) (hw : wantedF l.toArray fr g true = true) (hchk : chkL l done L i = true) : Sd P l Q L W n κ (fuel + 1) done fr cs := by
  intro a w hf hs
  have hq : chkQ l done i = true := by simp only [chkL, Bool.and_eq_true] at hchk; exact hchk.1
  refine Sd.hoist (fun w => HoldsAt w (b, o, r)) (DpL l done L) hi hq (v := v) (.inl ⟨wanted_of (o := ⟨some d, op, ty, pos, af, g⟩) hf hw, fun w hI => ?_⟩) (fun hl => hr.out hs hl) (DpL.init hchk) (fun _ _ h hj => h.step hj) (fun listed hD hun j hj hji w hW => hW (chkL_late hchk hD hun hj hji) _ hm) ?_
  · obtain ⟨T, pre, sp, fz, hp, hb⟩ := hI h.1
    exact h.2 a w T pre sp fz hf hp hb
  · exact k _ _ (hf.put hd) hs

/-- The one that can come now, and is no mere reading. -/
theorem Sd.nn {K : Value → List HProp → Prop} (i : Nat) {dst : Option Nat} {fr' : Value → List (Nat × Value)} (hi : getO l i = some ⟨dst, op, ty, pos, af, g⟩) (hr : Region.ready .any l.toArray (listedBy l.length done) = [i])
    (hw : wantedF l.toArray fr g true = true) (h : OpN P n κ ⟨dst, op, ty, pos, af, g⟩ fr cs K) (hfr : ∀ a v, Fr n a fr → Fr n (a.put dst v) (fr' v))
    (hW : ∀ v cs', K v cs' → ∀ κ w, Sat κ w cs' → Wt L W i w) (k : ∀ v cs', K v cs' → Sd P l Q L W n κ fuel (i :: done) (fr' v) cs') : Sd P l Q L W n κ (fuel + 1) done fr cs := by
  intro a w hf hs
  have hi' : l.toArray[i]? = some ⟨dst, op, ty, pos, af, g⟩ := by rw [← getO_eq]; exact hi
  refine ⟨fun h0 => (by rw [hr] at h0; cases h0), fun j hj => ?_⟩
  rw [hr] at hj
  obtain rfl : j = i := by simpa using hj
  unfold wpOpY
  simp only [hi', wanted_of (o := ⟨dst, op, ty, pos, af, g⟩) hf hw, if_true]
  exact h a w _ _ hf hs fun v cs' w' hK hs' => ⟨.inr (hW v cs' hK κ w' hs'), k v cs' hK _ _ (hfr a v hf) hs'⟩
/-- Each of those that can come now. -/
theorem Sd.two {i j : Nat} (hr : Region.ready .any l.toArray (listedBy l.length done) = [i, j])
    (h1 : ∀ a w, Fr n a fr → Sat κ w cs → wpOpY P l.toArray (NoP Q) i (fun a' w' => (w' = w ∨ Wt L W i w') ∧ wpM P l.toArray (NoP Q) (Wt L W) fuel (listedBy l.length (i :: done)) a' w') a w)
    (h2 : ∀ a w, Fr n a fr → Sat κ w cs → wpOpY P l.toArray (NoP Q) j (fun a' w' => (w' = w ∨ Wt L W j w') ∧ wpM P l.toArray (NoP Q) (Wt L W) fuel (listedBy l.length (j :: done)) a' w') a w) :
    Sd P l Q L W n κ (fuel + 1) done fr cs := by
  intro a w hf hs
  refine ⟨fun h0 => (by rw [hr] at h0; cases h0), fun k hk => ?_⟩
  rw [hr] at hk
  rcases List.mem_cons.1 hk with rfl | hk
  · exact h1 a w hf hs
  · obtain rfl : k = j := by simpa using hk
    exact h2 a w hf hs
theorem Sd.opN {K : Value → List HProp → Prop} (i : Nat) {dst : Option Nat} {fr' : Value → List (Nat × Value)} (hi : getO l i = some ⟨dst, op, ty, pos, af, g⟩)
    (hw : wantedF l.toArray fr g true = true) (h : OpN P n κ ⟨dst, op, ty, pos, af, g⟩ fr cs K) (hfr : ∀ a v, Fr n a fr → Fr n (a.put dst v) (fr' v))
    (hW : ∀ v cs', K v cs' → ∀ κ w, Sat κ w cs' → Wt L W i w) (k : ∀ v cs', K v cs' → Sd P l Q L W n κ fuel (i :: done) (fr' v) cs') (a : Act) (w : World) (hf : Fr n a fr) (hs : Sat κ w cs) :
    wpOpY P l.toArray (NoP Q) i (fun a' w' => (w' = w ∨ Wt L W i w') ∧ wpM P l.toArray (NoP Q) (Wt L W) fuel (listedBy l.length (i :: done)) a' w') a w := by
  have hi' : l.toArray[i]? = some ⟨dst, op, ty, pos, af, g⟩ := by rw [← getO_eq]; exact hi
  unfold wpOpY
  simp only [hi', wanted_of (o := ⟨dst, op, ty, pos, af, g⟩) hf hw, if_true]
  exact h a w _ _ hf hs fun v cs' w' hK hs' => ⟨.inr (hW v cs' hK κ w' hs'), k v cs' hK _ _ (hfr a v hf) hs'⟩
/-- All have come. -/
theorem Sd.nil (k : ∀ a w, Fr n a fr → Sat κ w cs → Q .normal a w) (hr : Region.ready .any l.toArray (listedBy l.length done) = [] := by kernel_rfl) : Sd P l Q L W n κ 0 done fr cs :=
  fun a w hf hs => ⟨hr, k a w hf hs⟩
theorem Sd.go {y : Code} {Q' : Exit → Act → World → Prop} (k : Co P Q' n κ y fr cs) (hq : ∀ a w, y.wp P Q' a w → Q .normal a w := by exact fun _ _ h => h) (hr : Region.ready .any l.toArray (listedBy l.length done) = [] := by kernel_rfl) :
    Sd P l Q L W n κ 0 done fr cs := .nil (fun a w hf hs => hq a w (k a w hf hs)) hr
theorem Sd.e0 {fn : Func} {R : Ending → World → Prop} (k : ∀ w, Sat κ w cs → R (.returned (.tuple #[])) w) (hq : RetTo .normal Q (bodyPost P fn R .normal) := by infer_instance) (hr : fn.results = #[] := by rfl)
    (hr' : Region.ready .any l.toArray (listedBy l.length done) = [] := by kernel_rfl) (hn : n.ds = [] := by rfl) : Sd P l Q L W n κ 0 done fr cs :=
  .nil (fun a w hf hs => hq.out a w (ret0 (.inr rfl) hr hf (k w hs) hn)) hr'
end
end Go.Proofs.YtpcechnalfaajaaDoor

/- The steps of a region that draws its order. PRINTED by wip/gen/wrapd.py. -/
namespace Go.Proofs.YtpcechnalfaajaaDoor
open Go
section
variable {P : Program} {l : List Oper} {Q : Exit → Act → World → Prop} {L : List Nat} {W : List (Nat × Nat × List Value)} {n : Nd} {κ : Kap} {fuel : Nat} {done : List Nat} {fr : List (Nat × Value)} {cs : List HProp}
variable {d : Nat} {op : Op} {ty : TypeId} {pos : String} {af : Array Edge} {g : Option (Nat × Bool)}
variable {T U E S : TypeId} {x y z u : Operand} {v : Value} {a b : Int} {k j : IntKind}

theorem Sd.mv (i : Nat) (kk : Sd P l Q L W n κ fuel (i :: done) ((d, v) :: fr) cs) (hi : getO l i = some ⟨some d, .move x, ty, pos, af, g⟩ := by rfl) (h : ev fr x = some v := by rfl) (hd : Nat.blt d n.n = true := by rfl) (hw : wantedF l.toArray fr g true = true := by rfl) (hchk : chkQ l done i = true := by kernel_rfl) : Sd P l Q L W n κ (fuel + 1) done fr cs := .q i hi (.move h) kk hd hw hchk
theorem Sd.as (i : Nat) (kk : Sd P l Q L W n κ fuel (i :: done) ((d, v) :: fr) cs) (hi : getO l i = some ⟨some d, .assign x, ty, pos, af, g⟩ := by rfl) (h : ev fr x = some v := by rfl) (hd : Nat.blt d n.n = true := by rfl) (hw : wantedF l.toArray fr g true = true := by rfl) (hchk : chkQ l done i = true := by kernel_rfl) : Sd P l Q L W n κ (fuel + 1) done fr cs := .q i hi (.assign h) kk hd hw hchk
theorem Sd.nc (i : Nat) {p : Addr} (kk : Sd P l Q L W n κ fuel (i :: done) ((d, .pointer (some p)) :: fr) cs) (hi : getO l i = some ⟨some d, .nilCheck x, ty, pos, af, g⟩ := by rfl) (h : ev fr x = some (.pointer (some p)) := by rfl) (hd : Nat.blt d n.n = true := by rfl) (hw : wantedF l.toArray fr g true = true := by rfl) (hchk : chkQ l done i = true := by kernel_rfl) : Sd P l Q L W n κ (fuel + 1) done fr cs := .q i hi (.nilCheck h) kk hd hw hchk
theorem Sd.fa (i : Nat) {f off b o : Nat} (kk : Sd P l Q L W n κ fuel (i :: done) ((d, .pointer (some ⟨b, o + off, none⟩)) :: fr) cs) (hi : getO l i = some ⟨some d, .fieldAddr S x f, ty, pos, af, g⟩ := by rfl) (h : ev fr x = some (.pointer (some ⟨b, o, none⟩)) ∧ Fd P S f off := by refine ⟨rfl, ?_⟩; infer_instance) (hd : Nat.blt d n.n = true := by rfl) (hw : wantedF l.toArray fr g true = true := by rfl) (hchk : chkQ l done i = true := by kernel_rfl) : Sd P l Q L W n κ (fuel + 1) done fr cs := .q i hi (have := h.2; .fieldAddr h.1) kk hd hw hchk
theorem Sd.fv (i : Nat) {f off m : Nat} {agg : Bool} {l0 : List Value} (kk : Sd P l Q L W n κ fuel (i :: done) ((d, v) :: fr) cs) (hi : getO l i = some ⟨some d, .field S x f, ty, pos, af, g⟩ := by rfl) (h : ev fr x = some (.agg l0.toArray) ∧ Fv P S f agg off m ∧ getV agg l0 off m = some v := by refine ⟨rfl, ?_, ?_⟩; infer_instance; rfl) (hd : Nat.blt d n.n = true := by rfl) (hw : wantedF l.toArray fr g true = true := by rfl) (hchk : chkQ l done i = true := by kernel_rfl) : Sd P l Q L W n κ (fuel + 1) done fr cs := .q i hi (have := h.2.1; .field h.1 h.2.2) kk hd hw hchk
theorem Sd.pt (i : Nat) (kk : Sd P l Q L W n κ fuel (i :: done) ((d, v) :: fr) cs) (hi : getO l i = some ⟨some d, .pick x y z, ty, pos, af, g⟩ := by rfl) (h : ev fr x = some (.bool true) ∧ ev fr y = some v := by exact ⟨rfl, rfl⟩) (hd : Nat.blt d n.n = true := by rfl) (hw : wantedF l.toArray fr g true = true := by rfl) (hchk : chkQ l done i = true := by kernel_rfl) : Sd P l Q L W n κ (fuel + 1) done fr cs := .q i hi (.pickT h.1 h.2) kk hd hw hchk
theorem Sd.pf (i : Nat) (kk : Sd P l Q L W n κ fuel (i :: done) ((d, v) :: fr) cs) (hi : getO l i = some ⟨some d, .pick x y z, ty, pos, af, g⟩ := by rfl) (h : ev fr x = some (.bool false) ∧ ev fr z = some v := by exact ⟨rfl, rfl⟩) (hd : Nat.blt d n.n = true := by rfl) (hw : wantedF l.toArray fr g true = true := by rfl) (hchk : chkQ l done i = true := by kernel_rfl) : Sd P l Q L W n κ (fuel + 1) done fr cs := .q i hi (.pickF h.1 h.2) kk hd hw hchk
theorem Sd.ex (i : Nat) {i0 : Nat} {l0 : List Value} (kk : Sd P l Q L W n κ fuel (i :: done) ((d, v) :: fr) cs) (hi : getO l i = some ⟨some d, .extract x i0, ty, pos, af, g⟩ := by rfl) (h : ev fr x = some (.tuple l0.toArray) ∧ get1 l0 i0 = some v := by exact ⟨rfl, rfl⟩) (hd : Nat.blt d n.n = true := by rfl) (hw : wantedF l.toArray fr g true = true := by rfl) (hchk : chkQ l done i = true := by kernel_rfl) : Sd P l Q L W n κ (fuel + 1) done fr cs := .q i hi (.extract h.1 h.2) kk hd hw hchk
theorem Sd.nt (i : Nat) {b : Bool} (kk : Sd P l Q L W n κ fuel (i :: done) ((d, .bool (!b)) :: fr) cs) (hi : getO l i = some ⟨some d, .unOp .not T x, ty, pos, af, g⟩ := by rfl) (h : ev fr x = some (.bool b) := by rfl) (hd : Nat.blt d n.n = true := by rfl) (hw : wantedF l.toArray fr g true = true := by rfl) (hchk : chkQ l done i = true := by kernel_rfl) : Sd P l Q L W n κ (fuel + 1) done fr cs := .q i hi (.not h) kk hd hw hchk
theorem Sd.ad (i : Nat) (kk : Sd P l Q L W n κ fuel (i :: done) ((d, .int .i64 (a + b)) :: fr) cs) (hi : getO l i = some ⟨some d, .binOp .add T x y U, ty, pos, af, g⟩ := by rfl) (h : ev fr x = some (.int .i64 a) ∧ ev fr y = some (.int .i64 b) := by exact ⟨rfl, rfl⟩)
    (hr : -9223372036854775808 ≤ a + b ∧ a + b ≤ 9223372036854775807 := by omega) (hd : Nat.blt d n.n = true := by rfl) (hw : wantedF l.toArray fr g true = true := by rfl) (hchk : chkQ l done i = true := by kernel_rfl) : Sd P l Q L W n κ (fuel + 1) done fr cs := by refine .q i hi (.add h.1 h.2) ?_ hd hw hchk; rw [wrap_in hr]; exact kk
theorem Sd.sb (i : Nat) (kk : Sd P l Q L W n κ fuel (i :: done) ((d, .int .i64 (a - b)) :: fr) cs) (hi : getO l i = some ⟨some d, .binOp .sub T x y U, ty, pos, af, g⟩ := by rfl) (h : ev fr x = some (.int .i64 a) ∧ ev fr y = some (.int .i64 b) := by exact ⟨rfl, rfl⟩)
    (hr : -9223372036854775808 ≤ a - b ∧ a - b ≤ 9223372036854775807 := by omega) (hd : Nat.blt d n.n = true := by rfl) (hw : wantedF l.toArray fr g true = true := by rfl) (hchk : chkQ l done i = true := by kernel_rfl) : Sd P l Q L W n κ (fuel + 1) done fr cs := by refine .q i hi (.sub h.1 h.2) ?_ hd hw hchk; rw [wrap_in hr]; exact kk
theorem Sd.lt (i : Nat) (kk : Sd P l Q L W n κ fuel (i :: done) ((d, .bool (decide (a < b))) :: fr) cs) (hi : getO l i = some ⟨some d, .binOp .lss T x y U, ty, pos, af, g⟩ := by rfl) (h : ev fr x = some (.int k a) ∧ ev fr y = some (.int k b) := by exact ⟨rfl, rfl⟩) (hd : Nat.blt d n.n = true := by rfl) (hw : wantedF l.toArray fr g true = true := by rfl) (hchk : chkQ l done i = true := by kernel_rfl) : Sd P l Q L W n κ (fuel + 1) done fr cs := .q i hi (.lss h.1 h.2) kk hd hw hchk
theorem Sd.le (i : Nat) (kk : Sd P l Q L W n κ fuel (i :: done) ((d, .bool (decide (a ≤ b))) :: fr) cs) (hi : getO l i = some ⟨some d, .binOp .leq T x y U, ty, pos, af, g⟩ := by rfl) (h : ev fr x = some (.int k a) ∧ ev fr y = some (.int k b) := by exact ⟨rfl, rfl⟩) (hd : Nat.blt d n.n = true := by rfl) (hw : wantedF l.toArray fr g true = true := by rfl) (hchk : chkQ l done i = true := by kernel_rfl) : Sd P l Q L W n κ (fuel + 1) done fr cs := .q i hi (.leq h.1 h.2) kk hd hw hchk
theorem Sd.gt (i : Nat) (kk : Sd P l Q L W n κ fuel (i :: done) ((d, .bool (decide (b < a))) :: fr) cs) (hi : getO l i = some ⟨some d, .binOp .gtr T x y U, ty, pos, af, g⟩ := by rfl) (h : ev fr x = some (.int k a) ∧ ev fr y = some (.int k b) := by exact ⟨rfl, rfl⟩) (hd : Nat.blt d n.n = true := by rfl) (hw : wantedF l.toArray fr g true = true := by rfl) (hchk : chkQ l done i = true := by kernel_rfl) : Sd P l Q L W n κ (fuel + 1) done fr cs := .q i hi (.gtr h.1 h.2) kk hd hw hchk
theorem Sd.ge (i : Nat) (kk : Sd P l Q L W n κ fuel (i :: done) ((d, .bool (decide (b ≤ a))) :: fr) cs) (hi : getO l i = some ⟨some d, .binOp .geq T x y U, ty, pos, af, g⟩ := by rfl) (h : ev fr x = some (.int k a) ∧ ev fr y = some (.int k b) := by exact ⟨rfl, rfl⟩) (hd : Nat.blt d n.n = true := by rfl) (hw : wantedF l.toArray fr g true = true := by rfl) (hchk : chkQ l done i = true := by kernel_rfl) : Sd P l Q L W n κ (fuel + 1) done fr cs := .q i hi (.geq h.1 h.2) kk hd hw hchk
theorem Sd.eq (i : Nat) (kk : Sd P l Q L W n κ fuel (i :: done) ((d, .bool (decide (a = b))) :: fr) cs) (hi : getO l i = some ⟨some d, .binOp .eql T x y U, ty, pos, af, g⟩ := by rfl) (h : ev fr x = some (.int k a) ∧ ev fr y = some (.int k b) := by exact ⟨rfl, rfl⟩) (hd : Nat.blt d n.n = true := by rfl) (hw : wantedF l.toArray fr g true = true := by rfl) (hchk : chkQ l done i = true := by kernel_rfl) : Sd P l Q L W n κ (fuel + 1) done fr cs := .q i hi (.eql h.1 h.2) kk hd hw hchk
theorem Sd.ne (i : Nat) (kk : Sd P l Q L W n κ fuel (i :: done) ((d, .bool (decide (a ≠ b))) :: fr) cs) (hi : getO l i = some ⟨some d, .binOp .neq T x y U, ty, pos, af, g⟩ := by rfl) (h : ev fr x = some (.int k a) ∧ ev fr y = some (.int k b) := by exact ⟨rfl, rfl⟩) (hd : Nat.blt d n.n = true := by rfl) (hw : wantedF l.toArray fr g true = true := by rfl) (hchk : chkQ l done i = true := by kernel_rfl) : Sd P l Q L W n κ (fuel + 1) done fr cs := .q i hi (.neq h.1 h.2) kk hd hw hchk
theorem Sd.ln (i : Nat) {m by_ len cap : Nat} {p : Option Addr} (kk : Sd P l Q L W n κ fuel (i :: done) ((d, .int .i64 len) :: fr) cs) (hi : getO l i = some ⟨some d, .call ⟨.builtin .len, #[x], #[T]⟩, ty, pos, af, g⟩ := by rfl) (h : ev fr x = some (.slice p len cap) ∧ Sl P T E m by_ := by refine ⟨rfl, ?_⟩; infer_instance) (hd : Nat.blt d n.n = true := by rfl) (hw : wantedF l.toArray fr g true = true := by rfl) (hchk : chkQ l done i = true := by kernel_rfl) : Sd P l Q L W n κ (fuel + 1) done fr cs := .q i hi (have := h.2; .len (T := T) h.1 rfl) kk hd hw hchk
theorem Sd.ix (i : Nat) {m by_ b o len cap : Nat} (kk : Sd P l Q L W n κ fuel (i :: done) ((d, .pointer (some ⟨b, o + a.toNat * m, none⟩)) :: fr) cs) (hi : getO l i = some ⟨some d, .indexAddr T x y, ty, pos, af, g⟩ := by rfl) (h : ev fr x = some (.slice (some ⟨b, o, none⟩) len cap) ∧ ev fr y = some (.int k a) ∧ Sl P T E m by_ := by refine ⟨rfl, rfl, ?_⟩; infer_instance) (hz : 0 ≤ a ∧ a < len := by omega) (hd : Nat.blt d n.n = true := by rfl) (hw : wantedF l.toArray fr g true = true := by rfl) (hchk : chkQ l done i = true := by kernel_rfl) : Sd P l Q L W n κ (fuel + 1) done fr cs := .q i hi (have := h.2.2; .idx h.1 h.2.1 hz) kk hd hw hchk
theorem Sd.ixa (i : Nat) {m b o len : Nat} (kk : Sd P l Q L W n κ fuel (i :: done) ((d, .pointer (some ⟨b, o + a.toNat * m, none⟩)) :: fr) cs) (hi : getO l i = some ⟨some d, .indexAddr T x y, ty, pos, af, g⟩ := by rfl) (h : ev fr x = some (.pointer (some ⟨b, o, none⟩)) ∧ ev fr y = some (.int k a) ∧ Ar P T len E m := by refine ⟨rfl, rfl, ?_⟩; infer_instance) (hz : 0 ≤ a ∧ a < len := by omega) (hd : Nat.blt d n.n = true := by rfl) (hw : wantedF l.toArray fr g true = true := by rfl) (hchk : chkQ l done i = true := by kernel_rfl) : Sd P l Q L W n κ (fuel + 1) done fr cs := .q i hi (have := h.2.2; .idxA h.1 h.2.1 hz) kk hd hw hchk
theorem Sd.bd (i : Nat) {T : TypeId} {xs : List (Nat × Operand)} {vs : List (Nat × Value)} {z r : List Value} {pl : List (Nat × Nat)} (kk : Sd P l Q L W n κ fuel (i :: done) ((d, .agg r.toArray) :: fr) cs) (hi : getO l i = some ⟨some d, .build T xs.toArray, ty, pos, af, g⟩ := by rfl) (h : Zr P T z ∧ Bd P T pl ∧ evp fr xs = some vs ∧ bld z pl vs = some r := by refine ⟨?_, ?_, ?_, ?_⟩; infer_instance; infer_instance; rfl; rfl) (hd : Nat.blt d n.n = true := by rfl) (hw : wantedF l.toArray fr g true = true := by rfl) (hchk : chkQ l done i = true := by kernel_rfl) : Sd P l Q L W n κ (fuel + 1) done fr cs := .q i hi (have := h.1; have := h.2.1; .build h.2.2.1 h.2.2.2) kk hd hw hchk
theorem Sd.bz (i : Nat) {T : TypeId} {z : List Value} {pl : List (Nat × Nat)} (kk : Sd P l Q L W n κ fuel (i :: done) ((d, .agg z.toArray) :: fr) cs) (hi : getO l i = some ⟨some d, .build T #[], ty, pos, af, g⟩ := by rfl) (h : Zr P T z ∧ Bd P T pl := by refine ⟨?_, ?_⟩; infer_instance; infer_instance) (hd : Nat.blt d n.n = true := by rfl) (hw : wantedF l.toArray fr g true = true := by rfl) (hchk : chkQ l done i = true := by kernel_rfl) : Sd P l Q L W n κ (fuel + 1) done fr cs := .q i hi (have := h.1; have := h.2; OpQ.build (xs := []) (vs := []) rfl rfl) kk hd hw hchk
theorem Sd.a64 (i : Nat) {f : FuncId} {xs : List Operand} {ts : Array TypeId} {x y c : Int} [h64 : A64 P f]
    (kk : Sd P l Q L W n κ fuel (i :: done) ((d, .tuple [.int .u64 ((x + y + c) % 18446744073709551616), .int .u64 ((x + y + c) / 18446744073709551616)].toArray) :: fr) cs) (hi : getO l i = some ⟨some d, .call ⟨.value (.func f), xs.toArray, ts⟩, ty, pos, af, g⟩ := by rfl) (hx : evs fr xs = some [.int .u64 x, .int .u64 y, .int .u64 c] := by rfl) (hr : 0 ≤ x ∧ 0 ≤ y ∧ 0 ≤ c ∧ c ≤ 1 := by omega) (hd : Nat.blt d n.n = true := by rfl) (hw : wantedF l.toArray fr g true = true := by rfl) (hchk : chkQ l done i = true := by kernel_rfl) : Sd P l Q L W n κ (fuel + 1) done fr cs := .q i hi (.fn hx fun w => h64.run x y c w hr.1 hr.2.1 hr.2.2.1 hr.2.2.2) kk hd hw hchk
theorem Sd.s64 (i : Nat) {f : FuncId} {xs : List Operand} {ts : Array TypeId} {x y c : Int} [h64 : S64 P f]
    (kk : Sd P l Q L W n κ fuel (i :: done) ((d, .tuple [.int .u64 ((x - y - c) % 18446744073709551616), .int .u64 (if x < y + c then 1 else 0)].toArray) :: fr) cs) (hi : getO l i = some ⟨some d, .call ⟨.value (.func f), xs.toArray, ts⟩, ty, pos, af, g⟩ := by rfl) (hx : evs fr xs = some [.int .u64 x, .int .u64 y, .int .u64 c] := by rfl) (hr : 0 ≤ x ∧ 0 ≤ y ∧ y < 18446744073709551616 ∧ 0 ≤ c ∧ c ≤ 1 := by omega) (hd : Nat.blt d n.n = true := by rfl) (hw : wantedF l.toArray fr g true = true := by rfl) (hchk : chkQ l done i = true := by kernel_rfl) : Sd P l Q L W n κ (fuel + 1) done fr cs := .q i hi (.fn hx fun w => h64.run x y c w hr.1 hr.2.1 hr.2.2.1 hr.2.2.2.1 hr.2.2.2.2) kk hd hw hchk

theorem Sd.ld {b0 o m : Nat} {agg : Bool} {r : List Value} (i : Nat) (kk : Sd P l Q L W n κ fuel (i :: done) ((d, v) :: fr) cs) (hi : getO l i = some ⟨some d, .load T x, ty, pos, af, g⟩ := by rfl)
    (h : ev fr x = some (.pointer (some ⟨b0, o, none⟩)) ∧ Rd b0 cs r ∧ Ty P T agg m ∧ Nat.blt 0 m = true ∧ getV agg r o m = some v ∧ (b0, 0, r) ∈ W := by
      refine ⟨rfl, ?_, ?_, ?_, ?_, ?_⟩; infer_instance; infer_instance; rfl; rfl; first | exact .head _ | exact .tail _ (.head _) | exact .tail _ (.tail _ (.head _)) | exact .tail _ (.tail _ (.tail _ (.head _))) | exact .tail _ (.tail _ (.tail _ (.tail _ (.head _)))))
    (hd : Nat.blt d n.n = true := by rfl) (hw : wantedF l.toArray fr g true = true := by rfl) (hchk : chkL l done L i = true := by kernel_rfl) : Sd P l Q L W n κ (fuel + 1) done fr cs :=
  have := h.2.1; have := h.2.2.1
  .a i hi h.2.2.2.2.2 (.load (o := 0) (k := o) (by rw [Nat.zero_add]; exact h.1) h.2.2.2.1 h.2.2.2.2.1) kk hd hw hchk
/-- A load of a whole row. -/
theorem Sd.ldw {b0 m : Nat} {r : List Value} (i : Nat) (kk : Sd P l Q L W n κ fuel (i :: done) ((d, .agg r.toArray) :: fr) cs) (hi : getO l i = some ⟨some d, .load T x, ty, pos, af, g⟩ := by rfl)
    (h : ev fr x = some (.pointer (some ⟨b0, 0, none⟩)) ∧ Rd b0 cs r ∧ Ty P T true m ∧ Nat.blt 0 m = true ∧ r.length = m ∧ (b0, 0, r) ∈ W := by
      refine ⟨rfl, ?_, ?_, ?_, ?_, ?_⟩; infer_instance; infer_instance; rfl; rfl; first | exact .head _ | exact .tail _ (.head _) | exact .tail _ (.tail _ (.head _)) | exact .tail _ (.tail _ (.tail _ (.head _))) | exact .tail _ (.tail _ (.tail _ (.tail _ (.head _)))))
    (hd : Nat.blt d n.n = true := by rfl) (hw : wantedF l.toArray fr g true = true := by rfl) (hchk : chkL l done L i = true := by kernel_rfl) : Sd P l Q L W n κ (fuel + 1) done fr cs :=
  have := h.2.1; have := h.2.2.1
  .a i hi h.2.2.2.2.2 (.load (o := 0) (k := 0) h.1 h.2.2.2.1 (by
    have e : ∀ (l : List Value), takeF l.length l = some l := by
      intro l; induction l with
      | nil => rfl
      | cons x t ih => simp [takeF, ih]
    simp [getV, getN, ← h.2.2.2.2.1, e])) kk hd hw hchk
/-- A load out of a slice, what it gives being told. -/
theorem Sd.lx {b0 o t m : Nat} {agg : Bool} {r : List Value} (i : Nat) (hv : getV agg r t m = some v) (kk : Sd P l Q L W n κ fuel (i :: done) ((d, v) :: fr) cs) (hi : getO l i = some ⟨some d, .load T x, ty, pos, af, g⟩ := by rfl)
    (h : ev fr x = some (.pointer (some ⟨b0, o + t, none⟩)) ∧ RdAt b0 cs o r ∧ Ty P T agg m ∧ Nat.blt 0 m = true ∧ (b0, o, r) ∈ W := by
      refine ⟨rfl, ?_, ?_, ?_, ?_⟩; infer_instance; infer_instance; rfl; first | exact .head _ | exact .tail _ (.head _) | exact .tail _ (.tail _ (.head _)) | exact .tail _ (.tail _ (.tail _ (.head _))) | exact .tail _ (.tail _ (.tail _ (.tail _ (.head _)))))
    (hd : Nat.blt d n.n = true := by rfl) (hw : wantedF l.toArray fr g true = true := by rfl) (hchk : chkL l done L i = true := by kernel_rfl) : Sd P l Q L W n κ (fuel + 1) done fr cs :=
  have := h.2.1; have := h.2.2.1
  .a i hi h.2.2.2.2 (.load h.1 h.2.2.2.1 hv) kk hd hw hchk
theorem Sd.st {b0 o m : Nat} {agg : Bool} {r r' : List Value} {F : List Value → List HProp} (i : Nat) (kk : Sd P l Q L W n κ fuel (i :: done) fr (F r')) (hi : getO l i = some ⟨none, .store T x y, ty, pos, af, g⟩ := by rfl)
    (h : ev fr x = some (.pointer (some ⟨b0, o, none⟩)) ∧ ev fr y = some v ∧ Wr b0 cs r F ∧ Ty P T agg m ∧ ((vc v).length = m ∧ Nat.blt 0 m = true) ∧ one (vc v) = true ∧ putN r o (vc v) = some r' := by
      refine ⟨rfl, rfl, ?_, ?_, ⟨?_, ?_⟩, ?_, ?_⟩; infer_instance; infer_instance; rfl; rfl; rfl; rfl)
    (hW : memb i L = true ∨ WOk (F r') W := by first | exact .inl rfl | (right; infer_instance))
    (hw : wantedF l.toArray fr g true = true := by rfl) (hr : Region.ready .any l.toArray (listedBy l.length done) = [i] := by kernel_rfl) : Sd P l Q L W n κ (fuel + 1) done fr cs :=
  have := h.2.2.1; have := h.2.2.2.1
  .nn i (fr' := fun _ => fr) hi hr hw (.store h.1 h.2.1 h.2.2.2.2.1 h.2.2.2.2.2.1 h.2.2.2.2.2.2) (fun _ _ hf => hf)
    (fun _ _ hK κ w hs hl => by rw [hK.2] at hs; rcases hW with hW | hW; · rw [hW] at hl; cases hl
                                · exact hW.out hs) (fun _ _ hK => by rw [hK.2]; exact kk)
theorem Sd.al {zs : List Value} (i : Nat) (kk : ∀ b, Sd P l Q L W n κ fuel (i :: done) ((d, .pointer (some ⟨b, 0, none⟩)) :: fr) (pts b (T, zs) :: cs)) (hi : getO l i = some ⟨some d, .alloc T, ty, pos, af, g⟩ := by rfl) (h : Zr P T zs := by infer_instance)
    (hW : WOk cs W := by infer_instance) (hd : Nat.blt d n.n = true := by rfl) (hw : wantedF l.toArray fr g true = true := by rfl) (hr : Region.ready .any l.toArray (listedBy l.length done) = [i] := by kernel_rfl) : Sd P l Q L W n κ (fuel + 1) done fr cs :=
  .nn i (fr' := fun v => (d, v) :: fr) hi hr hw .alloc (fun _ _ hf => hf.put hd) (fun _ _ ⟨b, _, e'⟩ κ w hs _ => by rw [e'] at hs; exact hW.out hs.rows) (fun _ _ ⟨b, e, e'⟩ => by rw [e, e']; exact kk b)
theorem Sd.bx (i : Nat) (kk : ∀ b, Sd P l Q L W n κ fuel (i :: done) ((d, .pointer (some ⟨b, 0, none⟩)) :: fr) (pts b (T, vc v) :: cs)) (hi : getO l i = some ⟨some d, .box T x, ty, pos, af, g⟩ := by rfl) (h : ev fr x = some v := by rfl)
    (hW : WOk cs W := by infer_instance) (hd : Nat.blt d n.n = true := by rfl) (hw : wantedF l.toArray fr g true = true := by rfl) (hr : Region.ready .any l.toArray (listedBy l.length done) = [i] := by kernel_rfl) : Sd P l Q L W n κ (fuel + 1) done fr cs :=
  .nn i (fr' := fun v => (d, v) :: fr) hi hr hw (.box h) (fun _ _ hf => hf.put hd) (fun _ _ ⟨b, _, e'⟩ κ w hs _ => by rw [e'] at hs; exact hW.out hs.rows) (fun _ _ ⟨b, e, e'⟩ => by rw [e, e']; exact kk b)
theorem Sd.bs {m by_ len : Nat} {xs : List (Nat × Operand)} {vs : List (Nat × Value)} {zs r : List Value} (i : Nat)
    (kk : ∀ b, Sd P l Q L W n κ fuel (i :: done) ((d, .slice (some ⟨b, 0, none⟩) len len) :: fr) (pts b (E, r) :: cs)) (hi : getO l i = some ⟨some d, .buildSlice T len xs.toArray, ty, pos, af, g⟩ := by rfl)
    (h : Sl P T E m by_ ∧ Zr P E zs ∧ (zs.length = m ∧ Nat.blt 0 m = true ∧ Nat.ble (len * m) 65536 = true ∧ Nat.blt 0 len = true) ∧ evp fr xs = some vs ∧ bld (reps len zs) ((List.range len).map fun i => (i * m, m)) vs = some r := by
      refine ⟨?_, ?_, ⟨?_, ?_, ?_, ?_⟩, ?_, ?_⟩; infer_instance; infer_instance; rfl; rfl; rfl; rfl; rfl; rfl)
    (hW : WOk cs W := by infer_instance) (hd : Nat.blt d n.n = true := by rfl) (hw : wantedF l.toArray fr g true = true := by rfl) (hr : Region.ready .any l.toArray (listedBy l.length done) = [i] := by kernel_rfl) : Sd P l Q L W n κ (fuel + 1) done fr cs :=
  .nn i (fr' := fun v => (d, v) :: fr) hi hr hw (have := h.1; have := h.2.1; .buildSlice h.2.2.1 h.2.2.2.1 h.2.2.2.2) (fun _ _ hf => hf.put hd) (fun _ _ ⟨b, _, e'⟩ κ w hs _ => by rw [e'] at hs; exact hW.out hs.rows) (fun _ _ ⟨b, e, e'⟩ => by rw [e, e']; exact kk b)
/-- A call whose value and memory are known. -/
theorem Sd.cl {f : FuncId} {xs : List Operand} {ts : Array TypeId} {vs : List Value} {cs' : List HProp} (i : Nat) (h : ∀ w, Sat κ w cs → Calls P f vs.toArray w fun e w' => e = .returned v ∧ Sat κ w' cs')
    (kk : Sd P l Q L W n κ fuel (i :: done) ((d, v) :: fr) cs') (hi : getO l i = some ⟨some d, .call ⟨.value (.func f), xs.toArray, ts⟩, ty, pos, af, g⟩ := by rfl) (hx : evs fr xs = some vs := by rfl) (hc : Cal P f := by infer_instance)
    (hW : WOk cs' W := by infer_instance) (hd : Nat.blt d n.n = true := by rfl) (hw : wantedF l.toArray fr g true = true := by rfl) (hr : Region.ready .any l.toArray (listedBy l.length done) = [i] := by kernel_rfl) : Sd P l Q L W n κ (fuel + 1) done fr cs :=
  .nn i (K := fun u c => u = v ∧ c = cs') (fr' := fun v => (d, v) :: fr) hi hr hw (.call hx fun w hs => (h w hs).mono fun _ _ ⟨e, s⟩ => ⟨v, cs', e, ⟨rfl, rfl⟩, s⟩) (fun _ _ hf => hf.put hd)
    (fun _ _ ⟨_, e'⟩ κ w hs _ => by rw [e'] at hs; exact hW.out hs) (fun _ _ ⟨e, e'⟩ => by rw [e, e']; exact kk)
/-- A call that leaves something open. -/
theorem Sd.ce {ι : Type} {f : FuncId} {xs : List Operand} {ts : Array TypeId} {vs : List Value} {r : ι → Value} {cs' : ι → List HProp} {p : ι → Prop} (i : Nat)
    (h : ∀ w, Sat κ w cs → Calls P f vs.toArray w fun e w' => ∃ i, p i ∧ e = .returned (r i) ∧ Sat κ w' (cs' i))
    (kk : ∀ i', p i' → Sd P l Q L W n κ fuel (i :: done) ((d, r i') :: fr) (cs' i')) (hi : getO l i = some ⟨some d, .call ⟨.value (.func f), xs.toArray, ts⟩, ty, pos, af, g⟩ := by rfl) (hx : evs fr xs = some vs := by rfl) (hc : Cal P f := by infer_instance)
    (hW : ∀ i', WOk (cs' i') W := by intro _; infer_instance) (hd : Nat.blt d n.n = true := by rfl) (hw : wantedF l.toArray fr g true = true := by rfl) (hr : Region.ready .any l.toArray (listedBy l.length done) = [i] := by kernel_rfl) : Sd P l Q L W n κ (fuel + 1) done fr cs :=
  .nn i (K := fun u c => ∃ i, p i ∧ u = r i ∧ c = cs' i) (fr' := fun v => (d, v) :: fr) hi hr hw (.call hx fun w hs => (h w hs).mono fun _ _ ⟨i, hp, e, s⟩ => ⟨r i, cs' i, e, ⟨i, hp, rfl, rfl⟩, s⟩) (fun _ _ hf => hf.put hd)
    (fun _ _ ⟨i', _, _, e'⟩ κ w hs _ => by rw [e'] at hs; exact (hW i').out hs) (fun _ _ ⟨i', hp, e, e'⟩ => by rw [e, e']; exact kk i' hp)
end
end Go.Proofs.YtpcechnalfaajaaDoor

/- append. -/
namespace Go.Proofs.YtpcechnalfaajaaDoor
open Go

theorem run_loadCells_pre {P : Program} {w : World} {b : Nat} {pre l sp : List Value} {T : TypeId} {fz : Nat × Nat} (h : w.heap[b]? = some (.cells (pre ++ (l ++ sp)).toArray T fz)) :
    (loadCells ⟨b, pre.length, none⟩ l.length).run P w = .ok l.toArray w := by
  rw [run_loadCells (P := P) (w := w) ⟨b, pre.length, none⟩ l.length (fun j => l.getD j undef) (fun j hj => by
    have hadd : (⟨b, pre.length, none⟩ : Addr).add j = ⟨b, pre.length + j, none⟩ := by unfold Addr.add; split <;> simp_all
    rw [hadd]
    simp only [World.cell?, h]
    have : (pre ++ (l ++ sp))[pre.length + j]? = some (l.getD j undef) := by
      rw [List.getElem?_append_right (by omega), Nat.add_sub_cancel_left, List.getElem?_append_left hj, List.getElem?_eq_getElem hj]
      simp [List.getD, hj]
    simpa using this)]
  congr 1
  apply Array.ext'
  apply List.ext_getElem?
  intro j
  simp
  by_cases hj : j < l.length
  · simp [hj]
  · rw [List.getElem?_eq_none (by simp; omega), List.getElem?_eq_none (by omega)]; rfl

theorem nextcap_le (need cap : Nat) (h : cap < need) : Builtin.nextslicecap need cap ≤ 3 * need + 1024 := by
  unfold Builtin.nextslicecap
  split
  · omega
  · split
    · omega
    · have step : ∀ r c, c ≤ need → Builtin.growBy need r c ≤ 2 * need + 192 := by
        intro r
        induction r with
        | zero => intro c hc; simp only [Builtin.growBy]; omega
        | succ r ih =>
          intro c hc
          simp only [Builtin.growBy]
          split
          · omega
          · rename_i h1
            by_cases h2 : c + (c + 768) / 4 ≤ need
            · exact ih _ h2
            · cases r with
              | zero => simp only [Builtin.growBy]; omega
              | succ r => simp only [Builtin.growBy]; rw [if_pos (by omega)]; omega
      have := step 4 cap (by omega)
      omega

theorem take_all (l sp : List Value) : (l ++ sp).take l.length = l := by simp

section
variable {P : Program} {ops : Array Oper} {Q : Exit → Act → World → Prop} {n : Nd} {κ : Kap} {rest : List Oper} {fr : List (Nat × Value)} {cs : List HProp}
variable {dst : Option Nat} {d : Nat} {op : Op} {ty : TypeId} {pos : String} {af : Array Edge} {g : Option (Nat × Bool)}

theorem run_first {m k : Nat} {q : Option Addr} {c : Nat} {src : List Value} {w : World} (hr : RdS cs q src) (hl : src.length = k * m) (hs : Sat κ w cs) :
    (Builtin.firstCells m k (.slice q k c)).run P w = .ok src.toArray w := by
  rcases hr with rfl | ⟨b, o, rfl, hr⟩
  · have h0 : k * m = 0 := by simpa using hl.symm
    cases q with
    | none => simp [Builtin.firstCells]
    | some a => simp [Builtin.firstCells, h0, loadCells, loadCellsFrom]
  · by_cases hne : src = []
    · subst hne
      have h0 : k * m = 0 := by simpa using hl.symm
      simp [Builtin.firstCells, h0, loadCells, loadCellsFrom]
    · obtain ⟨T, pre, sp, fz, rfl, hb⟩ := hr.out hs hne
      simp only [Builtin.firstCells, ← hl]
      exact run_loadCells_pre hb

/-- append to a slice that owns its row. -/
theorem OpN.append {T E : TypeId} {m by_ : Nat} {x y : Operand} {p q : Option Addr} {n0 cap0 k c : Nat} {l src z : List Value} {F : HProp → List HProp}
    (hx : ev fr x = some (.slice p n0 cap0)) (hy : ev fr y = some (.slice q k c)) [ho : Ob (sl m) (.slice p n0 cap0) cs (E, l) F] (hr : RdS cs q src) (hl : src.length = k * m) (h1 : one src = true)
    [hs : Sl P T E m by_] [hz : Zr P E z] (hzl : z.length = m) (hb : n0 + k < 2147483648 ∧ by_ ≤ 4096) :
    OpN P n κ ⟨dst, .call ⟨.builtin .append, #[x, y], #[T, T]⟩, ty, pos, af, g⟩ fr cs
      (fun v cs' => ∃ p' cap', v = .slice p' (n0 + k) cap' ∧ cs' = F (sl m (.slice p' (n0 + k) cap') (E, l ++ src))) := by
  intro a w next Q ha hst hn
  obtain ⟨Fr, hs1, hF⟩ := Sat.get (o := ho) hst
  obtain ⟨g0, s0, d0, k1, k2, e1, e2, dj, ⟨p', n', cap', heq, hll, hcap, hp⟩, hrest⟩ := hs1.ex
  cases heq
  have hfirst := run_first (P := P) (c := c) hr hl hst
  have hund := hs.und w
  obtain ⟨i0, hi0, hby⟩ := hs.info w
  have hzero : ∃ v0, (zeroValue E).run P w = .ok v0 w ∧ v0.cells = z.toArray := hz.run w
  have hunT : (underlying T).run P w = .ok (.slice E) w := hund
  by_cases hfit : n0 + k ≤ cap0
  · -- it fits
    cases p with
    | none =>
      obtain ⟨h00, h01⟩ := hp
      have hk : k = 0 := by omega
      subst hk
      have hsrc : src = [] := List.eq_nil_of_length_eq_zero (by simpa using hl)
      subst hsrc
      have hrun : (execOp a.eval ⟨dst, .call ⟨.builtin .append, #[x, y], #[T, T]⟩, ty, pos, af, g⟩).run P w = .ok (.value (.slice none (n0 + 0) cap0)) w := by
        simp [execOp, resolve, ha.eval hx, ha.eval hy, invoke, builtin, Builtin.append_, hund, hs.size, Builtin.lenOf, hfirst]
        omega
      simp only [Oper.wpY, hrun, Oper.upY, Oper.upon]
      refine hn _ _ w ⟨none, cap0, rfl, rfl⟩ (hF _ κ w ?_)
      simpa using hs1
    | some ad =>
      obtain ⟨b, sp, rfl, hsp, hpt⟩ := hp
      have hsb : Sat κ w (pts b (E, l ++ sp) :: Fr) := ⟨hst.os, hst.tape, hst.out, hst.ro, g0, s0, d0, k1, k2, e1, e2, dj, hpt, hrest⟩
      have hheap := hsb.pts_heap
      have hkm : k * m ≤ (cap0 - n0) * m := Nat.mul_le_mul_right m (by omega)
      have hstc := run_storeCells_at (P := P) b (n0 * m) E src 0 (l ++ sp).toArray w hheap (by simp at hll ⊢; omega) (one_spec h1)
      have hlist : (l ++ sp).take (n0 * m + 0) ++ src ++ (l ++ sp).drop (n0 * m + 0 + src.length) = (l ++ src) ++ sp.drop src.length := by
        have : n0 * m = l.length := by simpa using hll.symm
        rw [Nat.add_zero, this, take_all, List.drop_append]
        simp
      have hadd : (⟨b, 0, none⟩ : Addr).add (n0 * m) = ⟨b, n0 * m, none⟩ := by unfold Addr.add; split <;> simp_all
      have hrun : (execOp a.eval ⟨dst, .call ⟨.builtin .append, #[x, y], #[T, T]⟩, ty, pos, af, g⟩).run P w = .ok (.value (.slice (some ⟨b, 0, none⟩) (n0 + k) cap0)) (putRow w b (.cells ((l ++ src) ++ sp.drop src.length).toArray E (0, 0))) := by
        have e3 : (storeCells ⟨b, n0 * m, none⟩ src).run P w = .ok () (putRow w b (.cells ((l ++ src) ++ sp.drop src.length).toArray E (0, 0))) := by
          have := hstc
          simp only at this
          rw [hlist] at this
          rw [this, setRow_putRow w b (l ++ sp) _ E hheap]
        simp [execOp, resolve, ha.eval hx, ha.eval hy, invoke, builtin, Builtin.append_, hund, hs.size, Builtin.lenOf, hfirst, hfit, hadd, e3]
      simp only [Oper.wpY, hrun, Oper.upY, Oper.upon]
      refine hn _ _ _ ⟨some ⟨b, 0, none⟩, cap0, rfl, rfl⟩ (hF _ κ _ ?_)
      have hs2 := hsb.pts_put (y := (E, (l ++ src) ++ sp.drop src.length))
      refine hs2.imp fun g' ⟨j1, j2, f1, f2, fd, fp, fr'⟩ => ⟨j1, j2, f1, f2, fd, ⟨_, n0 + k, cap0, rfl, ?_, hfit, b, sp.drop src.length, rfl, ?_, fp⟩, fr'⟩
      · simp [Nat.add_mul]; simp at hll; omega
      · rw [List.length_drop, hl]
        have : (cap0 - (n0 + k)) * m = (cap0 - n0) * m - k * m := by rw [← Nat.sub_mul]; congr 1; omega
        omega
  · -- a new row
    have hold : (Builtin.firstCells m n0 (.slice p n0 cap0)).run P w = .ok l.toArray w ∧ True := by
      refine ⟨?_, trivial⟩
      cases p with
      | none =>
        obtain ⟨h00, h01⟩ := hp
        have : l = [] := List.eq_nil_of_length_eq_zero (by simp at hll; simp [hll, h00])
        simp [Builtin.firstCells, this]
      | some ad =>
        obtain ⟨b, sp, rfl, hsp, hpt⟩ := hp
        have hsb : Sat κ w (pts b (E, l ++ sp) :: Fr) := ⟨hst.os, hst.tape, hst.out, hst.ro, g0, s0, d0, k1, k2, e1, e2, dj, hpt, hrest⟩
        have hheap := hsb.pts_heap
        have h3 := run_loadCells_pre (P := P) (pre := []) (l := l) (sp := sp) (by simpa using hheap)
        have : n0 * m = l.length := by simpa using hll.symm
        simp only [Builtin.firstCells, this]
        simpa using h3
    have hcapb : Builtin.nextslicecap (n0 + k) cap0 ≤ 3 * (n0 + k) + 1024 := nextcap_le _ _ (by omega)
    have hbig : ¬ (Builtin.nextslicecap (n0 + k) cap0 * by_ > 2 ^ 48) := by
      have : Builtin.nextslicecap (n0 + k) cap0 * by_ ≤ (3 * (n0 + k) + 1024) * 4096 := Nat.mul_le_mul hcapb hb.2
      omega
    obtain ⟨v0, hv0, hvc⟩ := hzero
    generalize hq : (Question.appendCap (n0 + k) cap0 E).cut (w.tape w.drawn (Question.appendCap (n0 + k) cap0 E)) = newCap
    have hge : n0 + k ≤ newCap := by rw [← hq]; simp only [Question.cut]; omega
    have hforced : (Question.appendCap (n0 + k) cap0 E).forced = false := rfl
    have hds := hst.drawn (w.drawn + 1)
    have hmx : ¬ ((n0 : Int) + k > IntKind.i64.max ∧ (false = true ∨ by_ = 0)) := by
      intro ⟨hh, _⟩
      have : IntKind.i64.max = 9223372036854775807 := by decide
      omega
    have hfirst2 := run_first (P := P) (c := c) (w := { w with drawn := w.drawn + 1 }) hr hl hds
    have hold2 : (Builtin.firstCells m n0 (.slice p n0 cap0)).run P { w with drawn := w.drawn + 1 } = .ok l.toArray { w with drawn := w.drawn + 1 } := by
      cases p with
      | none =>
        obtain ⟨h00, h01⟩ := hp
        have : l = [] := List.eq_nil_of_length_eq_zero (by simp at hll; simp [hll, h00])
        simp [Builtin.firstCells, this]
      | some ad =>
        obtain ⟨b, sp, rfl, hsp, hpt⟩ := hp
        have hsb : Sat κ w (pts b (E, l ++ sp) :: Fr) := ⟨hst.os, hst.tape, hst.out, hst.ro, g0, s0, d0, k1, k2, e1, e2, dj, hpt, hrest⟩
        have hheap := hsb.pts_heap
        have h3 := run_loadCells_pre (P := P) (w := { w with drawn := w.drawn + 1 }) (pre := []) (l := l) (sp := sp) (by simpa using hheap)
        have : n0 * m = l.length := by simpa using hll.symm
        simp only [Builtin.firstCells, this]
        simpa using h3
    obtain ⟨v1, hv1, hvc1⟩ := hz.run { w with drawn := w.drawn + 1 }
    have hrow : (Builtin.zeroCells z.toArray (newCap - (n0 + k))).toList.length = (newCap - (n0 + k)) * m := by
      simp [Builtin.zeroCells, hzl]
    have hrun : (execOp a.eval ⟨dst, .call ⟨.builtin .append, #[x, y], #[T, T]⟩, ty, pos, af, g⟩).run P w = .ok (.value (.slice (some ⟨w.heap.size, 0, none⟩) (n0 + k) newCap))
        { w with drawn := w.drawn + 1, heap := w.heap.push (.cells ((l ++ src) ++ (Builtin.zeroCells z.toArray (newCap - (n0 + k))).toList).toArray E (0, 0)) } := by
      have hb1 : (typeInfo E).run P w = .ok i0 w := hi0
      rw [← hby] at hbig hmx
      have hnm : ¬ (n0 + k ≤ cap0) := hfit
      have hneed : (Builtin.nextslicecap (n0 + k) cap0 * i0.bytes > 2 ^ 48) = False := eq_false hbig
      simp only [execOp, resolve, ha.eval hx, ha.eval hy, invoke, builtin, Builtin.append_, Sem.run_bind, Sem.run_pure, Result.andThen_ok, List.map_toArray, List.map_cons, List.map_nil]
      simp [hund, hs.size, Builtin.lenOf, hfit, hb1]
      rw [if_neg (by omega), if_neg (by omega), if_neg (by simp [hforced])]
      obtain ⟨i1, hi1, _⟩ := hs.info w.drew
      have hold3 : (Builtin.firstCells m n0 (.slice p n0 cap0)).run P w.drew = .ok l.toArray w.drew := hold2
      have hfirst3 : (Builtin.firstCells m k (.slice q k c)).run P w.drew = .ok src.toArray w.drew := hfirst2
      have hv3 : (zeroValue E).run P w.drew = .ok v1 w.drew := hv1
      rw [hi1]
      simp [hold3, hfirst3, hv3, hvc1, newRow, newObj, Sem.run, hq]
      have ez : l.toArray ++ (src.toArray ++ Builtin.zeroCells z.toArray (newCap - (n0 + k))) = (l ++ (src ++ (Builtin.zeroCells z.toArray (newCap - (n0 + k))).toList)).toArray := by
        apply Array.ext'; simp
      rw [ez]
      rfl
    simp only [Oper.wpY, hrun, Oper.upY, Oper.upon]
    refine hn _ _ _ ⟨some ⟨w.heap.size, 0, none⟩, newCap, rfl, rfl⟩ (hF _ κ _ ?_)
    have hs2 := (hs1.rows.drawn (w.drawn + 1)).pts_new (E, (l ++ src) ++ (Builtin.zeroCells z.toArray (newCap - (n0 + k))).toList)
    refine hs2.imp fun g' ⟨j1, j2, f1, f2, fd, fp, fr'⟩ => ⟨j1, j2, f1, f2, fd, ⟨_, n0 + k, newCap, rfl, ?_, hge, w.heap.size, _, rfl, Nat.le_of_eq hrow.symm, fp⟩, fr'⟩
    simp [Nat.add_mul]; simp at hll; omega

theorem St.ap {T E : TypeId} {m by_ : Nat} {x y : Operand} {p q : Option Addr} {n0 cap0 k c : Nat} {l src z : List Value} {F : HProp → List HProp} (hr : RdS cs q src)
    (kk : ∀ p' cap', St P ops Q n κ rest ((d, .slice p' (n0 + k) cap') :: fr) (F (sl m (.slice p' (n0 + k) cap') (E, l ++ src)))) (hl : src.length = k * m) (h1 : one src = true)
    (h : ev fr x = some (.slice p n0 cap0) ∧ ev fr y = some (.slice q k c) ∧ Sl P T E m by_ ∧ Ob (sl m) (.slice p n0 cap0) cs (E, l) F ∧ Zr P E z ∧ z.length = m ∧ Nat.ble by_ 4096 = true := by
      refine ⟨rfl, rfl, ?_, ?_, ?_, ?_, ?_⟩; infer_instance; infer_instance; infer_instance; rfl; rfl)
    (hb : n0 + k < 2147483648 := by omega) (hd : Nat.blt d n.n = true := by rfl) (hw : wantedF ops fr g true = true := by rfl) :
    St P ops Q n κ (⟨some d, .call ⟨.builtin .append, #[x, y], #[T, T]⟩, ty, pos, af, g⟩ :: rest) fr cs :=
  have := h.2.2.1; have := h.2.2.2.1; have := h.2.2.2.2.1
  .nn (.append h.1 h.2.1 hr hl h1 h.2.2.2.2.2.1 ⟨hb, Nat.le_of_ble_eq_true h.2.2.2.2.2.2⟩) (fun _ _ ⟨p', cap', e, e'⟩ => by rw [e, e']; exact kk p' cap') hd hw
end
section
variable {P : Program} {l : List Oper} {Q : Exit → Act → World → Prop} {L : List Nat} {W : List (Nat × Nat × List Value)} {n : Nd} {κ : Kap} {fuel : Nat} {done : List Nat} {fr : List (Nat × Value)} {cs : List HProp}
variable {d : Nat} {op : Op} {ty : TypeId} {pos : String} {af : Array Edge} {g : Option (Nat × Bool)}
theorem Sd.ap {T E : TypeId} {m by_ : Nat} {x y : Operand} {p q : Option Addr} {n0 cap0 k c : Nat} {r src z : List Value} {F : HProp → List HProp} (i : Nat) (hr : RdS cs q src)
    (kk : ∀ p' cap', Sd P l Q L W n κ fuel (i :: done) ((d, .slice p' (n0 + k) cap') :: fr) (F (sl m (.slice p' (n0 + k) cap') (E, r ++ src)))) (hl : src.length = k * m) (h1 : one src = true)
    (hi : getO l i = some ⟨some d, .call ⟨.builtin .append, #[x, y], #[T, T]⟩, ty, pos, af, g⟩ := by rfl)
    (h : ev fr x = some (.slice p n0 cap0) ∧ ev fr y = some (.slice q k c) ∧ Sl P T E m by_ ∧ Ob (sl m) (.slice p n0 cap0) cs (E, r) F ∧ Zr P E z ∧ z.length = m ∧ Nat.ble by_ 4096 = true := by
      refine ⟨rfl, rfl, ?_, ?_, ?_, ?_, ?_⟩; infer_instance; infer_instance; infer_instance; rfl; rfl)
    (hb : n0 + k < 2147483648 := by omega) (hW : ∀ p' cap', WOk (F (sl m (.slice p' (n0 + k) cap') (E, r ++ src))) W := by intro _ _; infer_instance)
    (hd : Nat.blt d n.n = true := by rfl) (hw : wantedF l.toArray fr g true = true := by rfl) (hrd : Region.ready .any l.toArray (listedBy l.length done) = [i] := by kernel_rfl) : Sd P l Q L W n κ (fuel + 1) done fr cs :=
  have := h.2.2.1; have := h.2.2.2.1; have := h.2.2.2.2.1
  .nn i (fr' := fun v => (d, v) :: fr) hi hrd hw (.append h.1 h.2.1 hr hl h1 h.2.2.2.2.2.1 ⟨hb, Nat.le_of_ble_eq_true h.2.2.2.2.2.2⟩) (fun _ _ hf => hf.put hd)
    (fun _ _ ⟨p', cap', _, e'⟩ κ w hs _ => by rw [e'] at hs; exact (hW p' cap').out hs) (fun _ _ ⟨p', cap', e, e'⟩ => by rw [e, e']; exact kk p' cap')
end
end Go.Proofs.YtpcechnalfaajaaDoor

/- '==' between structs and arrays of numbers; the other operations on numbers. -/
namespace Go.Proofs.YtpcechnalfaajaaDoor
open Go

/-- A type of numbers and bools alone, its parts one behind the other: how many cells. -/
def plainFs (P : Program) (rec : TypeId → Option Nat) : Nat → List Field → Option Nat
  | o, [] => some o
  | o, f :: fs => match rec f.type with
    | some s => bif Nat.beq f.offset o && !(f.name == "_") && Nat.beq (P.cellsOf f.type) s then plainFs P rec (o + s) fs else none
    | none => none
def plainT (P : Program) : Nat → TypeId → Option Nat
  | 0, _ => none
  | d + 1, t => match P.underlying t with
    | some (.int _) => some 1
    | some .bool => some 1
    | some (.struct fs) => bif P.stoodInHeld t then none else plainFs P (plainT P d) 0 fs.toList
    | some (.array n e) => match plainT P d e with
      | some s => bif Nat.beq (P.cellsOf e) s then some (n * s) else none
      | none => none
    | _ => none

def cellEq : Value → Value → Bool
  | .int _ a, .int _ b => a == b
  | .bool a, .bool b => a == b
  | _, _ => false
def rowEq : List Value → List Value → Bool
  | [], [] => true
  | x :: t, y :: u => cellEq x y && rowEq t u
  | _, _ => false
/-- Cells of one kind. -/
def cellAs : Value → Value → Bool
  | .int k _, .int k' _ => k == k'
  | .bool _, .bool _ => true
  | _, _ => false
def rowAs : List Value → List Value → Bool
  | [], [] => true
  | x :: t, y :: u => cellAs x y && rowAs t u
  | _, _ => false
/-- Rows that fit a type. -/
def fitT (P : Program) : Nat → TypeId → List Value → Bool
  | 0, _, _ => false
  | d + 1, t, xs => match P.underlying t with
    | some (.int k) => match xs with
      | [.int k' _] => k == k'
      | _ => false
    | some .bool => match xs with
      | [.bool _] => true
      | _ => false
    | some (.struct fs) => fs.toList.all fun f => fitT P d f.type ((xs.drop f.offset).take (P.cellsOf f.type))
    | some (.array n e) => (List.range n).all fun i => fitT P d e ((xs.drop (i * P.cellsOf e)).take (P.cellsOf e))
    | _ => false

theorem rowEq_append : ∀ (a b c d : List Value), a.length = b.length → rowEq (a ++ c) (b ++ d) = (rowEq a b && rowEq c d) := by
  intro a
  induction a with
  | nil => intro b c d h; have : b = [] := List.eq_nil_of_length_eq_zero (by simpa using h.symm); subst this; simp [rowEq]
  | cons x t ih => intro b c d h; cases b with
    | nil => simp at h
    | cons y u => simp only [List.cons_append, rowEq]; rw [ih u c d (by simpa using h), Bool.and_assoc]

def aggD : TypeDesc → Bool
  | .struct _ | .array _ _ => true
  | _ => false
/-- A value of a type, out of its cells. -/
def valT (P : Program) (t : TypeId) (xs : List Value) : Value :=
  match (P.underlying t).map aggD with
  | some true => .agg xs.toArray
  | _ => xs.headD undef

theorem run_isAgg {P : Program} {t : TypeId} {dsc : TypeDesc} (h : P.underlying t = some dsc) (w : World) : (isAgg t).run P w = .ok (aggD dsc) w := by
  simp only [isAgg, Sem.run_bind, run_underlying h, Result.andThen_ok]
  cases dsc <;> rfl
theorem cellsOf_info {P : Program} {t : TypeId} : P.cellsOf t = ((P.info? t).map (·.size)).getD 0 := by
  unfold Program.cellsOf; cases P.info? t <;> rfl
theorem und_info {P : Program} {t : TypeId} {dsc : TypeDesc} (h : P.underlying t = some dsc) : ∃ i, P.info? t = some i := by
  cases hi : P.info? t with
  | some i => exact ⟨i, rfl⟩
  | none => simp [Program.underlying, hi] at h

theorem run_part {P : Program} {t : TypeId} {dsc : TypeDesc} {xs : List Value} {o s : Nat} (hu : P.underlying t = some dsc) (hs : P.cellsOf t = s) (hle : o + s ≤ xs.length) (h1 : aggD dsc = false → s = 1) (w : World) :
    (part t xs.toArray o).run P w = .ok (valT P t ((xs.drop o).take s)) w := by
  obtain ⟨i, hi⟩ := und_info hu
  have hsz : (sizeOf t).run P w = .ok s w := by rw [run_sizeOf w hi, hs]
  cases hb : aggD dsc with
  | true =>
    have : valT P t ((xs.drop o).take s) = .agg ((xs.drop o).take s).toArray := by
      unfold valT; rw [hu]; simp [hb]
    rw [this]
    unfold part
    rw [Sem.run_bind, run_isAgg hu, hb]
    simp [hsz, List.take_drop, Nat.add_sub_cancel_left]
  | false =>
    have h1 := h1 hb
    subst h1
    have hlt : o < xs.length := by omega
    have : valT P t ((xs.drop o).take 1) = xs[o] := by
      have e : (xs.drop o).take 1 = [xs[o]] := by rw [List.drop_eq_getElem_cons hlt]; rfl
      unfold valT; rw [hu, e]; simp [hb]
    rw [this]
    unfold part
    rw [Sem.run_bind, run_isAgg hu, hb]
    simp [hlt]

theorem plain_und {P : Program} {d : Nat} {t : TypeId} {s : Nat} (h : plainT P d t = some s) : ∃ dsc, P.underlying t = some dsc ∧ (aggD dsc = false → s = 1) := by
  cases d with
  | zero => simp [plainT] at h
  | succ d =>
    simp only [plainT] at h
    cases hu : P.underlying t with
    | none => rw [hu] at h; simp at h
    | some dsc => refine ⟨dsc, rfl, ?_⟩; rw [hu] at h; cases dsc <;> simp_all [aggD]

theorem run_equal_plain {P : Program} : ∀ (d e : Nat) (t : TypeId) (s : Nat) (xs ys : List Value) (w : World), d ≤ e → plainT P d t = some s → xs.length = s → ys.length = s → fitT P d t xs = true → fitT P d t ys = true →
    (Op.equalIn e t (valT P t xs) (valT P t ys)).run P w = .ok (rowEq xs ys) w := by
  intro d
  induction d with
  | zero => intro e t s xs ys w _ h; simp [plainT] at h
  | succ d ih =>
    intro e t s xs ys w hde h hx hy hax hay
    obtain ⟨e, rfl⟩ : ∃ m, e = m + 1 := ⟨e - 1, by omega⟩
    simp only [plainT] at h
    simp only [fitT] at hax hay
    -- one part
    have one : ∀ (u : TypeId) (o s1 : Nat) (w : World), plainT P d u = some s1 → P.cellsOf u = s1 → o + s1 ≤ s → fitT P d u ((xs.drop o).take s1) = true → fitT P d u ((ys.drop o).take s1) = true →
        ∃ a b, (part u xs.toArray o).run P w = .ok a w ∧ (part u ys.toArray o).run P w = .ok b w ∧ (Op.equalIn e u a b).run P w = .ok (rowEq ((xs.drop o).take s1) ((ys.drop o).take s1)) w := by
      intro u o s1 w hp hc hle h1 h2
      obtain ⟨dsc, hu, hone⟩ := plain_und hp
      exact ⟨_, _, run_part hu hc (by omega) hone w, run_part hu hc (by omega) hone w, ih e u s1 _ _ w (by omega) hp (by simp; omega) (by simp; omega) h1 h2⟩
    have split : ∀ (o s1 : Nat), o + s1 ≤ s → rowEq (xs.drop o) (ys.drop o) = (rowEq ((xs.drop o).take s1) ((ys.drop o).take s1) && rowEq (xs.drop (o + s1)) (ys.drop (o + s1))) := by
      intro o s1 hle
      rw [← rowEq_append _ _ _ _ (by simp; omega), ← List.drop_drop, ← List.drop_drop, List.take_append_drop, List.take_append_drop]
    cases hu : P.underlying t with
    | none => rw [hu] at h; simp at h
    | some dsc =>
      rw [hu] at h hax hay
      cases dsc <;> simp only at h hax hay <;> try (simp at h)
      case bool =>
        subst h
        match xs, ys, hax, hay with
        | [.bool a], [.bool b], _, _ => simp [valT, hu, aggD, run_equalIn_bool' w e t a b hu, rowEq, cellEq]
      case int kk =>
        subst h
        match xs, ys, hax, hay with
        | [.int k a], [.int k' b], hax, hay =>
          have h1 : kk = k := by simpa using hax
          have h2 : kk = k' := by simpa using hay
          subst h1; subst h2
          simp [valT, hu, aggD, run_equalIn_int w e t kk kk a b hu, rowEq, cellEq]
      case array n el =>
        cases hp : plainT P d el with
        | none => rw [hp] at h; simp at h
        | some s1 =>
          rw [hp] at h
          simp only at h
          cases hc : Nat.beq (P.cellsOf el) s1 with
          | false => rw [hc] at h; simp at h
          | true =>
            rw [hc] at h
            simp at h
            have hc := Nat.eq_of_beq_eq_true hc
            obtain ⟨dsc, hud, h1⟩ := plain_und hp
            obtain ⟨i1, hi1⟩ := und_info hud
            have hv : ∀ zs : List Value, valT P t zs = .agg zs.toArray := fun zs => by unfold valT; rw [hu]; rfl
            rw [hv, hv, run_equalIn_array w e _ _ hu hi1, hc]
            have loop : ∀ (k i : Nat), i + k = n → (Op.eqItems e el s1 xs.toArray ys.toArray (List.range' i k)).run P w = .ok (rowEq (xs.drop (i * s1)) (ys.drop (i * s1))) w := by
              intro k
              induction k with
              | zero =>
                intro i hik
                have : i * s1 = s := by rw [← h, ← hik]; simp
                rw [this, List.drop_of_length_le (by omega), List.drop_of_length_le (by omega)]
                simp [Op.eqItems, rowEq]
              | succ k ihk =>
                intro i hik
                have hle : i * s1 + s1 ≤ s := by rw [← h, ← hik, ← Nat.succ_mul]; exact Nat.mul_le_mul_right _ (by omega)
                have hmem : i ∈ List.range n := by simp; omega
                rw [List.all_eq_true] at hax hay
                have f1 := hax i hmem
                have f2 := hay i hmem
                rw [hc] at f1 f2
                obtain ⟨a, b, r1, r2, r3⟩ := one el (i * s1) s1 w hp hc hle f1 f2
                rw [List.range'_succ, split _ _ hle]
                simp only [Op.eqItems, Sem.run_bind, r1, r2, r3, Result.andThen_ok]
                cases hb : rowEq ((xs.drop (i * s1)).take s1) ((ys.drop (i * s1)).take s1) with
                | false => simp
                | true => simp; rw [ihk (i + 1) (by omega), Nat.succ_mul]
            have := loop n 0 (by omega)
            rw [List.range_eq_range', this]
            simp
      case struct fs =>
        cases hst : P.stoodInHeld t with
        | true => rw [hst] at h; simp at h
        | false =>
          rw [hst] at h
          simp only [cond_false] at h
          have hv : ∀ zs : List Value, valT P t zs = .agg zs.toArray := fun zs => by unfold valT; rw [hu]; rfl
          have hfs : P.fieldsOf t = fs := by simp [Program.fieldsOf, hu]
          rw [hv, hv, run_equalIn_struct w e t _ _ (by rw [hfs]; exact hu) hst, hfs]
          rw [List.all_eq_true] at hax hay
          have loop : ∀ (l : List Field) (o : Nat), (∀ f ∈ l, f ∈ fs.toList) → plainFs P (plainT P d) o l = some s → (Op.eqFields e xs.toArray ys.toArray l).run P w = .ok (rowEq (xs.drop o) (ys.drop o)) w := by
            intro l
            induction l with
            | nil =>
              intro o _ ho
              simp [plainFs] at ho
              rw [List.drop_of_length_le (by omega), List.drop_of_length_le (by omega)]
              simp [Op.eqFields, rowEq]
            | cons f l ihl =>
              intro o hmem ho
              simp only [plainFs] at ho
              cases hp : plainT P d f.type with
              | none => rw [hp] at ho; simp at ho
              | some s1 =>
                rw [hp] at ho
                simp only at ho
                cases hc : (Nat.beq f.offset o && !(f.name == "_") && Nat.beq (P.cellsOf f.type) s1) with
                | false => rw [hc] at ho; simp at ho
                | true =>
                  rw [hc] at ho
                  simp only [cond_true] at ho
                  simp only [Bool.and_eq_true] at hc
                  obtain ⟨⟨h1, h2⟩, h3⟩ := hc
                  have h1 := Nat.eq_of_beq_eq_true h1
                  have h3 := Nat.eq_of_beq_eq_true h3
                  have h2 : f.name ≠ "_" := by simpa using h2
                  have hle : o + s1 ≤ s := by
                    have : ∀ (l : List Field) (o e : Nat), plainFs P (plainT P d) o l = some e → o ≤ e := by
                      intro l
                      induction l with
                      | nil => intro o e h; simp [plainFs] at h; omega
                      | cons f l ih =>
                        intro o e h
                        simp only [plainFs] at h
                        cases hp : plainT P d f.type with
                        | none => rw [hp] at h; simp at h
                        | some s1 =>
                          rw [hp] at h
                          simp only at h
                          cases hc : (Nat.beq f.offset o && !(f.name == "_") && Nat.beq (P.cellsOf f.type) s1) with
                          | false => rw [hc] at h; simp at h
                          | true => rw [hc] at h; have := ih _ _ (by simpa using h); omega
                    exact this _ _ _ ho
                  have f1 := hax f (hmem f (List.mem_cons_self ..))
                  have f2 := hay f (hmem f (List.mem_cons_self ..))
                  rw [h3, h1] at f1 f2
                  obtain ⟨a, b, r1, r2, r3⟩ := one f.type o s1 w hp h3 hle f1 f2
                  rw [split _ _ hle]
                  simp only [Op.eqFields, if_pos h2, h1, Sem.run_bind, r1, r2, r3, Result.andThen_ok]
                  cases hb : rowEq ((xs.drop o).take s1) ((ys.drop o).take s1) with
                  | false => simp
                  | true => simp; exact ihl (o + s1) (fun f hf => hmem f (List.mem_cons_of_mem _ hf)) ho
          have := loop fs.toList 0 (fun _ h => h) h
          simpa using this

/-- A struct or array type of numbers, whose '==' is known. -/
class EqT (P : Program) (T : TypeId) (m : outParam Nat) : Prop where
  plain : plainT P 20 T = some m
  agg : (P.underlying T).map aggD = some true
  guard : P.eqGuardType P.depth T = false

section
variable {P : Program} {ops : Array Oper} {Q : Exit → Act → World → Prop} {n : Nd} {κ : Kap} {rest : List Oper} {fr : List (Nat × Value)} {cs : List HProp}
variable {dst : Option Nat} {d : Nat} {op : Op} {ty : TypeId} {pos : String} {af : Array Edge} {g : Option (Nat × Bool)}
variable {T U : TypeId} {x y : Operand} {a b : Int} {k j : IntKind}
theorem run_equal_agg {m : Nat} [h : EqT P T m] {xs ys : List Value} (hx : xs.length = m ∧ fitT P 20 T xs = true) (hy : ys.length = m ∧ fitT P 20 T ys = true) (w : World) :
    (Op.equal T (.agg xs.toArray) (.agg ys.toArray)).run P w = .ok (rowEq xs ys) w := by
  have hv : ∀ zs : List Value, valT P T zs = .agg zs.toArray := fun zs => by unfold valT; rw [h.agg]
  have := run_equal_plain (P := P) 20 Op.maxDepth T m xs ys w (by decide) h.plain hx.1 hy.1 hx.2 hy.2
  rw [hv, hv] at this
  exact this
theorem guard_run {m : Nat} [h : EqT P T m] {xs ys : Array Value} (bo : BinOp) (w : World) : (eqGuard bo T x y (.agg xs) (.agg ys)).run P w = .ok () w := by
  unfold eqGuard
  cases bo <;> simp [program, Sem.run, h.guard]
theorem OpQ.eqs {m : Nat} [h : EqT P T m] {xs ys : List Value} (hx : ev fr x = some (.agg xs.toArray)) (hy : ev fr y = some (.agg ys.toArray)) (h1 : xs.length = m ∧ fitT P 20 T xs = true) (h2 : ys.length = m ∧ fitT P 20 T ys = true) :
    OpQ P n ⟨dst, .binOp .eql T x y U, ty, pos, af, g⟩ fr (.bool (rowEq xs ys)) := by
  intro s w hf
  have e := run_equal_agg (P := P) (T := T) h1 h2 w
  simp only [execOp, hf.eval hx, hf.eval hy, Sem.run_bind, guard_run (P := P) (T := T), Result.andThen_ok, binOp, e, Sem.run_pure]
theorem OpQ.nes {m : Nat} [h : EqT P T m] {xs ys : List Value} (hx : ev fr x = some (.agg xs.toArray)) (hy : ev fr y = some (.agg ys.toArray)) (h1 : xs.length = m ∧ fitT P 20 T xs = true) (h2 : ys.length = m ∧ fitT P 20 T ys = true) :
    OpQ P n ⟨dst, .binOp .neq T x y U, ty, pos, af, g⟩ fr (.bool (!rowEq xs ys)) := by
  intro s w hf
  have e := run_equal_agg (P := P) (T := T) h1 h2 w
  simp only [execOp, hf.eval hx, hf.eval hy, Sem.run_bind, guard_run (P := P) (T := T), Result.andThen_ok, binOp, e, Sem.run_pure]
end
end Go.Proofs.YtpcechnalfaajaaDoor

/- Numbers' other operations, and '==', as steps. -/
namespace Go.Proofs.YtpcechnalfaajaaDoor
open Go

/- Bits, as the model reckons them. -/
def bandK (k : IntKind) (a b : Int) : Int := k.wrap ((BitVec.ofInt k.bits a &&& BitVec.ofInt k.bits b).toNat)
def borK (k : IntKind) (a b : Int) : Int := k.wrap ((BitVec.ofInt k.bits a ||| BitVec.ofInt k.bits b).toNat)
def bxorK (k : IntKind) (a b : Int) : Int := k.wrap ((BitVec.ofInt k.bits a ^^^ BitVec.ofInt k.bits b).toNat)
def bclrK (k : IntKind) (a b : Int) : Int := k.wrap ((BitVec.ofInt k.bits a &&& ~~~ BitVec.ofInt k.bits b).toNat)
def addK (k : IntKind) (a b : Int) : Int := k.wrap (a + b)
def subK (k : IntKind) (a b : Int) : Int := k.wrap (a - b)
def mulK (k : IntKind) (a b : Int) : Int := k.wrap (a * b)
def shrK (k : IntKind) (a b : Int) : Int := a.fdiv (2 ^ (min b.toNat k.bits))
def shlK (k : IntKind) (a b : Int) : Int := k.wrap (a * 2 ^ (min b.toNat k.bits))
def cplK (k : IntKind) (a : Int) : Int := bxorK k (if k.signed then -1 else k.max) a
/-- A slice type, for '== nil'. -/
class Sn (P : Program) (T : TypeId) : Prop where
  run : ∃ e, P.underlying T = some (.slice e)
class Pn (P : Program) (T : TypeId) : Prop where
  run : ∃ e, P.underlying T = some (.pointer e)
section
variable {P : Program} {n : Nd} {fr : List (Nat × Value)} {dst : Option Nat} {ty : TypeId} {pos : String} {af : Array Edge} {g : Option (Nat × Bool)} {T U : TypeId} {x y : Operand}
theorem run_equal_snil' (d : Nat) {p : Option Addr} {len cap : Nat} [h : Sn P T] (w : World) : (Op.equalIn (d + 1) T (.slice p len cap) (.slice none 0 0)).run P w = .ok p.isNone w := by
  obtain ⟨e, he⟩ := h.run
  cases p <;> simp [Op.equalIn, run_underlying he]
theorem run_equal_snil {p : Option Addr} {len cap : Nat} [h : Sn P T] (w : World) : (Op.equal T (.slice p len cap) (.slice none 0 0)).run P w = .ok p.isNone w := run_equal_snil' 9999 w
theorem run_equal_pnil' (d : Nat) {p : Option Addr} [h : Pn P T] (w : World) : (Op.equalIn (d + 1) T (.pointer p) (.pointer none)).run P w = .ok p.isNone w := by
  obtain ⟨e, he⟩ := h.run
  cases p <;> simp [Op.equalIn, run_underlying he]
theorem run_equal_pnil {p : Option Addr} [h : Pn P T] (w : World) : (Op.equal T (.pointer p) (.pointer none)).run P w = .ok p.isNone w := run_equal_pnil' 9999 w
theorem OpQ.eqNil {p : Option Addr} {len cap : Nat} [h : Sn P T] (hx : ev fr x = some (.slice p len cap)) (hy : ev fr y = some (.slice none 0 0)) : OpQ P n ⟨dst, .binOp .eql T x y U, ty, pos, af, g⟩ fr (.bool p.isNone) := by
  intro s w hf
  simp [execOp, hf.eval hx, hf.eval hy, eqGuard, binOp, run_equal_snil]
theorem OpQ.neNil {p : Option Addr} {len cap : Nat} [h : Sn P T] (hx : ev fr x = some (.slice p len cap)) (hy : ev fr y = some (.slice none 0 0)) : OpQ P n ⟨dst, .binOp .neq T x y U, ty, pos, af, g⟩ fr (.bool (!p.isNone)) := by
  intro s w hf
  simp [execOp, hf.eval hx, hf.eval hy, eqGuard, binOp, run_equal_snil]
theorem OpQ.eqPNil {p : Option Addr} [h : Pn P T] (hx : ev fr x = some (.pointer p)) (hy : ev fr y = some (.pointer none)) : OpQ P n ⟨dst, .binOp .eql T x y U, ty, pos, af, g⟩ fr (.bool p.isNone) := by
  intro s w hf
  simp [execOp, hf.eval hx, hf.eval hy, eqGuard, binOp, run_equal_pnil]
theorem OpQ.nePNil {p : Option Addr} [h : Pn P T] (hx : ev fr x = some (.pointer p)) (hy : ev fr y = some (.pointer none)) : OpQ P n ⟨dst, .binOp .neq T x y U, ty, pos, af, g⟩ fr (.bool (!p.isNone)) := by
  intro s w hf
  simp [execOp, hf.eval hx, hf.eval hy, eqGuard, binOp, run_equal_pnil]
theorem OpQ.cpl {k : IntKind} {a : Int} (h : ev fr x = some (.int k a)) : OpQ P n ⟨dst, .unOp .xor T x, ty, pos, af, g⟩ fr (.int k (cplK k a)) := by
  intro s w hf
  simp only [execOp, hf.eval h]; rfl
theorem OpQ.makeFunc {fn : Fn} {fi ca : List Operand} {v1 v2 : List Value} (h1 : evs fr fi = some v1) (h2 : evs fr ca = some v2) : OpQ P n ⟨dst, .makeFunc fn fi.toArray ca.toArray, ty, pos, af, g⟩ fr (.func fn v1.toArray v2.toArray) := by
  intro s w hf
  have e1 := evs_map hf h1
  have e2 := evs_map hf h2
  simp [execOp, Instr.makeFunc, e1, e2]
end
section
variable {P : Program} {ops : Array Oper} {Q : Exit → Act → World → Prop} {n : Nd} {κ : Kap} {rest : List Oper} {l : List Oper} {L : List Nat} {W : List (Nat × Nat × List Value)} {fuel : Nat} {done : List Nat} {fr : List (Nat × Value)} {cs : List HProp}
variable {d : Nat} {op : Op} {ty : TypeId} {pos : String} {af : Array Edge} {g : Option (Nat × Bool)}
variable {T U E S D : TypeId} {x y z u : Operand} {v : Value} {a b : Int} {k j : IntKind}

theorem St.an  (kk : St P ops Q n κ rest ((d, .int k (bandK k a b)) :: fr) cs) (h : ev fr x = some (.int k a) ∧ ev fr y = some (.int k b) := by exact ⟨rfl, rfl⟩) (hd : Nat.blt d n.n = true := by rfl) (hw : wantedF ops fr g true = true := by rfl) : St P ops Q n κ (⟨some d, .binOp .and T x y U, ty, pos, af, g⟩ :: rest) fr cs := .q (OpQ.and h.1 h.2) kk hd hw
theorem Sd.an  (i : Nat) (kk : Sd P l Q L W n κ fuel (i :: done) ((d, .int k (bandK k a b)) :: fr) cs) (hi : getO l i = some ⟨some d, .binOp .and T x y U, ty, pos, af, g⟩ := by rfl) (h : ev fr x = some (.int k a) ∧ ev fr y = some (.int k b) := by exact ⟨rfl, rfl⟩) (hd : Nat.blt d n.n = true := by rfl) (hw : wantedF l.toArray fr g true = true := by rfl) (hchk : chkQ l done i = true := by kernel_rfl) : Sd P l Q L W n κ (fuel + 1) done fr cs := .q i hi (OpQ.and h.1 h.2) kk hd hw hchk
theorem St.or  (kk : St P ops Q n κ rest ((d, .int k (borK k a b)) :: fr) cs) (h : ev fr x = some (.int k a) ∧ ev fr y = some (.int k b) := by exact ⟨rfl, rfl⟩) (hd : Nat.blt d n.n = true := by rfl) (hw : wantedF ops fr g true = true := by rfl) : St P ops Q n κ (⟨some d, .binOp .or T x y U, ty, pos, af, g⟩ :: rest) fr cs := .q (OpQ.or h.1 h.2) kk hd hw
theorem Sd.or  (i : Nat) (kk : Sd P l Q L W n κ fuel (i :: done) ((d, .int k (borK k a b)) :: fr) cs) (hi : getO l i = some ⟨some d, .binOp .or T x y U, ty, pos, af, g⟩ := by rfl) (h : ev fr x = some (.int k a) ∧ ev fr y = some (.int k b) := by exact ⟨rfl, rfl⟩) (hd : Nat.blt d n.n = true := by rfl) (hw : wantedF l.toArray fr g true = true := by rfl) (hchk : chkQ l done i = true := by kernel_rfl) : Sd P l Q L W n κ (fuel + 1) done fr cs := .q i hi (OpQ.or h.1 h.2) kk hd hw hchk
theorem St.xo  (kk : St P ops Q n κ rest ((d, .int k (bxorK k a b)) :: fr) cs) (h : ev fr x = some (.int k a) ∧ ev fr y = some (.int k b) := by exact ⟨rfl, rfl⟩) (hd : Nat.blt d n.n = true := by rfl) (hw : wantedF ops fr g true = true := by rfl) : St P ops Q n κ (⟨some d, .binOp .xor T x y U, ty, pos, af, g⟩ :: rest) fr cs := .q (OpQ.xor h.1 h.2) kk hd hw
theorem Sd.xo  (i : Nat) (kk : Sd P l Q L W n κ fuel (i :: done) ((d, .int k (bxorK k a b)) :: fr) cs) (hi : getO l i = some ⟨some d, .binOp .xor T x y U, ty, pos, af, g⟩ := by rfl) (h : ev fr x = some (.int k a) ∧ ev fr y = some (.int k b) := by exact ⟨rfl, rfl⟩) (hd : Nat.blt d n.n = true := by rfl) (hw : wantedF l.toArray fr g true = true := by rfl) (hchk : chkQ l done i = true := by kernel_rfl) : Sd P l Q L W n κ (fuel + 1) done fr cs := .q i hi (OpQ.xor h.1 h.2) kk hd hw hchk
theorem St.ano  (kk : St P ops Q n κ rest ((d, .int k (bclrK k a b)) :: fr) cs) (h : ev fr x = some (.int k a) ∧ ev fr y = some (.int k b) := by exact ⟨rfl, rfl⟩) (hd : Nat.blt d n.n = true := by rfl) (hw : wantedF ops fr g true = true := by rfl) : St P ops Q n κ (⟨some d, .binOp .andNot T x y U, ty, pos, af, g⟩ :: rest) fr cs := .q (OpQ.andNot h.1 h.2) kk hd hw
theorem Sd.ano  (i : Nat) (kk : Sd P l Q L W n κ fuel (i :: done) ((d, .int k (bclrK k a b)) :: fr) cs) (hi : getO l i = some ⟨some d, .binOp .andNot T x y U, ty, pos, af, g⟩ := by rfl) (h : ev fr x = some (.int k a) ∧ ev fr y = some (.int k b) := by exact ⟨rfl, rfl⟩) (hd : Nat.blt d n.n = true := by rfl) (hw : wantedF l.toArray fr g true = true := by rfl) (hchk : chkQ l done i = true := by kernel_rfl) : Sd P l Q L W n κ (fuel + 1) done fr cs := .q i hi (OpQ.andNot h.1 h.2) kk hd hw hchk
theorem St.cpl (kk : St P ops Q n κ rest ((d, .int k (cplK k a)) :: fr) cs) (h : ev fr x = some (.int k a) := by rfl) (hd : Nat.blt d n.n = true := by rfl) (hw : wantedF ops fr g true = true := by rfl) : St P ops Q n κ (⟨some d, .unOp .xor T x, ty, pos, af, g⟩ :: rest) fr cs := .q (OpQ.cpl h) kk hd hw
theorem Sd.cpl (i : Nat) (kk : Sd P l Q L W n κ fuel (i :: done) ((d, .int k (cplK k a)) :: fr) cs) (hi : getO l i = some ⟨some d, .unOp .xor T x, ty, pos, af, g⟩ := by rfl) (h : ev fr x = some (.int k a) := by rfl) (hd : Nat.blt d n.n = true := by rfl) (hw : wantedF l.toArray fr g true = true := by rfl) (hchk : chkQ l done i = true := by kernel_rfl) : Sd P l Q L W n κ (fuel + 1) done fr cs := .q i hi (OpQ.cpl h) kk hd hw hchk
theorem St.adw  (kk : St P ops Q n κ rest ((d, .int k (addK k a b)) :: fr) cs) (h : ev fr x = some (.int k a) ∧ ev fr y = some (.int k b) := by exact ⟨rfl, rfl⟩) (hd : Nat.blt d n.n = true := by rfl) (hw : wantedF ops fr g true = true := by rfl) : St P ops Q n κ (⟨some d, .binOp .add T x y U, ty, pos, af, g⟩ :: rest) fr cs := .q (OpQ.add h.1 h.2) kk hd hw
theorem Sd.adw  (i : Nat) (kk : Sd P l Q L W n κ fuel (i :: done) ((d, .int k (addK k a b)) :: fr) cs) (hi : getO l i = some ⟨some d, .binOp .add T x y U, ty, pos, af, g⟩ := by rfl) (h : ev fr x = some (.int k a) ∧ ev fr y = some (.int k b) := by exact ⟨rfl, rfl⟩) (hd : Nat.blt d n.n = true := by rfl) (hw : wantedF l.toArray fr g true = true := by rfl) (hchk : chkQ l done i = true := by kernel_rfl) : Sd P l Q L W n κ (fuel + 1) done fr cs := .q i hi (OpQ.add h.1 h.2) kk hd hw hchk
theorem St.sbw  (kk : St P ops Q n κ rest ((d, .int k (subK k a b)) :: fr) cs) (h : ev fr x = some (.int k a) ∧ ev fr y = some (.int k b) := by exact ⟨rfl, rfl⟩) (hd : Nat.blt d n.n = true := by rfl) (hw : wantedF ops fr g true = true := by rfl) : St P ops Q n κ (⟨some d, .binOp .sub T x y U, ty, pos, af, g⟩ :: rest) fr cs := .q (OpQ.sub h.1 h.2) kk hd hw
theorem Sd.sbw  (i : Nat) (kk : Sd P l Q L W n κ fuel (i :: done) ((d, .int k (subK k a b)) :: fr) cs) (hi : getO l i = some ⟨some d, .binOp .sub T x y U, ty, pos, af, g⟩ := by rfl) (h : ev fr x = some (.int k a) ∧ ev fr y = some (.int k b) := by exact ⟨rfl, rfl⟩) (hd : Nat.blt d n.n = true := by rfl) (hw : wantedF l.toArray fr g true = true := by rfl) (hchk : chkQ l done i = true := by kernel_rfl) : Sd P l Q L W n κ (fuel + 1) done fr cs := .q i hi (OpQ.sub h.1 h.2) kk hd hw hchk
theorem St.ml  (kk : St P ops Q n κ rest ((d, .int k (mulK k a b)) :: fr) cs) (h : ev fr x = some (.int k a) ∧ ev fr y = some (.int k b) := by exact ⟨rfl, rfl⟩) (hd : Nat.blt d n.n = true := by rfl) (hw : wantedF ops fr g true = true := by rfl) : St P ops Q n κ (⟨some d, .binOp .mul T x y U, ty, pos, af, g⟩ :: rest) fr cs := .q (OpQ.mul h.1 h.2) kk hd hw
theorem Sd.ml  (i : Nat) (kk : Sd P l Q L W n κ fuel (i :: done) ((d, .int k (mulK k a b)) :: fr) cs) (hi : getO l i = some ⟨some d, .binOp .mul T x y U, ty, pos, af, g⟩ := by rfl) (h : ev fr x = some (.int k a) ∧ ev fr y = some (.int k b) := by exact ⟨rfl, rfl⟩) (hd : Nat.blt d n.n = true := by rfl) (hw : wantedF l.toArray fr g true = true := by rfl) (hchk : chkQ l done i = true := by kernel_rfl) : Sd P l Q L W n κ (fuel + 1) done fr cs := .q i hi (OpQ.mul h.1 h.2) kk hd hw hchk
theorem St.shr  (kk : St P ops Q n κ rest ((d, .int k (shrK k a b)) :: fr) cs) (h : ev fr x = some (.int k a) ∧ ev fr y = some (.int j b) := by exact ⟨rfl, rfl⟩) (hb : 0 ≤ b := by omega) (hd : Nat.blt d n.n = true := by rfl) (hw : wantedF ops fr g true = true := by rfl) : St P ops Q n κ (⟨some d, .binOp .shr T x y U, ty, pos, af, g⟩ :: rest) fr cs := .q (.shr h.1 h.2 hb) kk hd hw
theorem Sd.shr  (i : Nat) (kk : Sd P l Q L W n κ fuel (i :: done) ((d, .int k (shrK k a b)) :: fr) cs) (hi : getO l i = some ⟨some d, .binOp .shr T x y U, ty, pos, af, g⟩ := by rfl) (h : ev fr x = some (.int k a) ∧ ev fr y = some (.int j b) := by exact ⟨rfl, rfl⟩) (hb : 0 ≤ b := by omega) (hd : Nat.blt d n.n = true := by rfl) (hw : wantedF l.toArray fr g true = true := by rfl) (hchk : chkQ l done i = true := by kernel_rfl) : Sd P l Q L W n κ (fuel + 1) done fr cs := .q i hi (.shr h.1 h.2 hb) kk hd hw hchk
theorem St.shl  (kk : St P ops Q n κ rest ((d, .int k (shlK k a b)) :: fr) cs) (h : ev fr x = some (.int k a) ∧ ev fr y = some (.int j b) := by exact ⟨rfl, rfl⟩) (hb : 0 ≤ b := by omega) (hd : Nat.blt d n.n = true := by rfl) (hw : wantedF ops fr g true = true := by rfl) : St P ops Q n κ (⟨some d, .binOp .shl T x y U, ty, pos, af, g⟩ :: rest) fr cs := .q (.shl h.1 h.2 hb) kk hd hw
theorem Sd.shl  (i : Nat) (kk : Sd P l Q L W n κ fuel (i :: done) ((d, .int k (shlK k a b)) :: fr) cs) (hi : getO l i = some ⟨some d, .binOp .shl T x y U, ty, pos, af, g⟩ := by rfl) (h : ev fr x = some (.int k a) ∧ ev fr y = some (.int j b) := by exact ⟨rfl, rfl⟩) (hb : 0 ≤ b := by omega) (hd : Nat.blt d n.n = true := by rfl) (hw : wantedF l.toArray fr g true = true := by rfl) (hchk : chkQ l done i = true := by kernel_rfl) : Sd P l Q L W n κ (fuel + 1) done fr cs := .q i hi (.shl h.1 h.2 hb) kk hd hw hchk
theorem St.quo  (kk : St P ops Q n κ rest ((d, .int k (k.wrap (a.tdiv b))) :: fr) cs) (h : ev fr x = some (.int k a) ∧ ev fr y = some (.int k b) := by exact ⟨rfl, rfl⟩) (hb : b ≠ 0 := by omega) (hd : Nat.blt d n.n = true := by rfl) (hw : wantedF ops fr g true = true := by rfl) : St P ops Q n κ (⟨some d, .binOp .quo T x y U, ty, pos, af, g⟩ :: rest) fr cs := .q (.quo h.1 h.2 hb) kk hd hw
theorem Sd.quo  (i : Nat) (kk : Sd P l Q L W n κ fuel (i :: done) ((d, .int k (k.wrap (a.tdiv b))) :: fr) cs) (hi : getO l i = some ⟨some d, .binOp .quo T x y U, ty, pos, af, g⟩ := by rfl) (h : ev fr x = some (.int k a) ∧ ev fr y = some (.int k b) := by exact ⟨rfl, rfl⟩) (hb : b ≠ 0 := by omega) (hd : Nat.blt d n.n = true := by rfl) (hw : wantedF l.toArray fr g true = true := by rfl) (hchk : chkQ l done i = true := by kernel_rfl) : Sd P l Q L W n κ (fuel + 1) done fr cs := .q i hi (.quo h.1 h.2 hb) kk hd hw hchk
theorem St.rem  (kk : St P ops Q n κ rest ((d, .int k (a.tmod b)) :: fr) cs) (h : ev fr x = some (.int k a) ∧ ev fr y = some (.int k b) := by exact ⟨rfl, rfl⟩) (hb : b ≠ 0 := by omega) (hd : Nat.blt d n.n = true := by rfl) (hw : wantedF ops fr g true = true := by rfl) : St P ops Q n κ (⟨some d, .binOp .rem T x y U, ty, pos, af, g⟩ :: rest) fr cs := .q (.rem h.1 h.2 hb) kk hd hw
theorem Sd.rem  (i : Nat) (kk : Sd P l Q L W n κ fuel (i :: done) ((d, .int k (a.tmod b)) :: fr) cs) (hi : getO l i = some ⟨some d, .binOp .rem T x y U, ty, pos, af, g⟩ := by rfl) (h : ev fr x = some (.int k a) ∧ ev fr y = some (.int k b) := by exact ⟨rfl, rfl⟩) (hb : b ≠ 0 := by omega) (hd : Nat.blt d n.n = true := by rfl) (hw : wantedF l.toArray fr g true = true := by rfl) (hchk : chkQ l done i = true := by kernel_rfl) : Sd P l Q L W n κ (fuel + 1) done fr cs := .q i hi (.rem h.1 h.2 hb) kk hd hw hchk
theorem St.cv  (kk : St P ops Q n κ rest ((d, .int k (k.wrap a)) :: fr) cs) (h : ev fr x = some (.int j a) ∧ Cv P S D k := by refine ⟨rfl, ?_⟩; infer_instance) (hd : Nat.blt d n.n = true := by rfl) (hw : wantedF ops fr g true = true := by rfl) : St P ops Q n κ (⟨some d, .convert S D x, ty, pos, af, g⟩ :: rest) fr cs := .q (have := h.2; .conv h.1) kk hd hw
theorem Sd.cv  (i : Nat) (kk : Sd P l Q L W n κ fuel (i :: done) ((d, .int k (k.wrap a)) :: fr) cs) (hi : getO l i = some ⟨some d, .convert S D x, ty, pos, af, g⟩ := by rfl) (h : ev fr x = some (.int j a) ∧ Cv P S D k := by refine ⟨rfl, ?_⟩; infer_instance) (hd : Nat.blt d n.n = true := by rfl) (hw : wantedF l.toArray fr g true = true := by rfl) (hchk : chkQ l done i = true := by kernel_rfl) : Sd P l Q L W n κ (fuel + 1) done fr cs := .q i hi (have := h.2; .conv h.1) kk hd hw hchk
theorem St.eqs {m : Nat} {xs ys : List Value} (kk : St P ops Q n κ rest ((d, .bool (rowEq xs ys)) :: fr) cs) (h : ev fr x = some (.agg xs.toArray) ∧ ev fr y = some (.agg ys.toArray) ∧ EqT P T m ∧ (xs.length = m ∧ fitT P 20 T xs = true) ∧ (ys.length = m ∧ fitT P 20 T ys = true) := by refine ⟨rfl, rfl, ?_, ⟨?_, ?_⟩, ⟨?_, ?_⟩⟩; infer_instance; (first | rfl | simp); kernel_rfl; (first | rfl | simp); kernel_rfl) (hd : Nat.blt d n.n = true := by rfl) (hw : wantedF ops fr g true = true := by rfl) : St P ops Q n κ (⟨some d, .binOp .eql T x y U, ty, pos, af, g⟩ :: rest) fr cs := .q (have := h.2.2.1; .eqs h.1 h.2.1 h.2.2.2.1 h.2.2.2.2) kk hd hw
theorem Sd.eqs {m : Nat} {xs ys : List Value} (i : Nat) (kk : Sd P l Q L W n κ fuel (i :: done) ((d, .bool (rowEq xs ys)) :: fr) cs) (hi : getO l i = some ⟨some d, .binOp .eql T x y U, ty, pos, af, g⟩ := by rfl) (h : ev fr x = some (.agg xs.toArray) ∧ ev fr y = some (.agg ys.toArray) ∧ EqT P T m ∧ (xs.length = m ∧ fitT P 20 T xs = true) ∧ (ys.length = m ∧ fitT P 20 T ys = true) := by refine ⟨rfl, rfl, ?_, ⟨?_, ?_⟩, ⟨?_, ?_⟩⟩; infer_instance; (first | rfl | simp); kernel_rfl; (first | rfl | simp); kernel_rfl) (hd : Nat.blt d n.n = true := by rfl) (hw : wantedF l.toArray fr g true = true := by rfl) (hchk : chkQ l done i = true := by kernel_rfl) : Sd P l Q L W n κ (fuel + 1) done fr cs := .q i hi (have := h.2.2.1; .eqs h.1 h.2.1 h.2.2.2.1 h.2.2.2.2) kk hd hw hchk
theorem St.nes {m : Nat} {xs ys : List Value} (kk : St P ops Q n κ rest ((d, .bool (!rowEq xs ys)) :: fr) cs) (h : ev fr x = some (.agg xs.toArray) ∧ ev fr y = some (.agg ys.toArray) ∧ EqT P T m ∧ (xs.length = m ∧ fitT P 20 T xs = true) ∧ (ys.length = m ∧ fitT P 20 T ys = true) := by refine ⟨rfl, rfl, ?_, ⟨?_, ?_⟩, ⟨?_, ?_⟩⟩; infer_instance; (first | rfl | simp); kernel_rfl; (first | rfl | simp); kernel_rfl) (hd : Nat.blt d n.n = true := by rfl) (hw : wantedF ops fr g true = true := by rfl) : St P ops Q n κ (⟨some d, .binOp .neq T x y U, ty, pos, af, g⟩ :: rest) fr cs := .q (have := h.2.2.1; .nes h.1 h.2.1 h.2.2.2.1 h.2.2.2.2) kk hd hw
theorem Sd.nes {m : Nat} {xs ys : List Value} (i : Nat) (kk : Sd P l Q L W n κ fuel (i :: done) ((d, .bool (!rowEq xs ys)) :: fr) cs) (hi : getO l i = some ⟨some d, .binOp .neq T x y U, ty, pos, af, g⟩ := by rfl) (h : ev fr x = some (.agg xs.toArray) ∧ ev fr y = some (.agg ys.toArray) ∧ EqT P T m ∧ (xs.length = m ∧ fitT P 20 T xs = true) ∧ (ys.length = m ∧ fitT P 20 T ys = true) := by refine ⟨rfl, rfl, ?_, ⟨?_, ?_⟩, ⟨?_, ?_⟩⟩; infer_instance; (first | rfl | simp); kernel_rfl; (first | rfl | simp); kernel_rfl) (hd : Nat.blt d n.n = true := by rfl) (hw : wantedF l.toArray fr g true = true := by rfl) (hchk : chkQ l done i = true := by kernel_rfl) : Sd P l Q L W n κ (fuel + 1) done fr cs := .q i hi (have := h.2.2.1; .nes h.1 h.2.1 h.2.2.2.1 h.2.2.2.2) kk hd hw hchk
theorem St.eqt {m : Nat} (xs ys : List Value) {r : Bool} (hr : rowEq xs ys = r) (h1 : (xs.length = m ∧ fitT P 20 T xs = true) ∧ (ys.length = m ∧ fitT P 20 T ys = true)) (kk : St P ops Q n κ rest ((d, .bool r) :: fr) cs) (h : ev fr x = some (.agg xs.toArray) ∧ ev fr y = some (.agg ys.toArray) ∧ EqT P T m := by refine ⟨rfl, rfl, ?_⟩; infer_instance) (hd : Nat.blt d n.n = true := by rfl) (hw : wantedF ops fr g true = true := by rfl) : St P ops Q n κ (⟨some d, .binOp .eql T x y U, ty, pos, af, g⟩ :: rest) fr cs := .q (have := h.2.2; by rw [← hr]; exact .eqs h.1 h.2.1 h1.1 h1.2) kk hd hw
theorem Sd.eqt {m : Nat} (xs ys : List Value) {r : Bool} (hr : rowEq xs ys = r) (h1 : (xs.length = m ∧ fitT P 20 T xs = true) ∧ (ys.length = m ∧ fitT P 20 T ys = true)) (i : Nat) (kk : Sd P l Q L W n κ fuel (i :: done) ((d, .bool r) :: fr) cs) (hi : getO l i = some ⟨some d, .binOp .eql T x y U, ty, pos, af, g⟩ := by rfl) (h : ev fr x = some (.agg xs.toArray) ∧ ev fr y = some (.agg ys.toArray) ∧ EqT P T m := by refine ⟨rfl, rfl, ?_⟩; infer_instance) (hd : Nat.blt d n.n = true := by rfl) (hw : wantedF l.toArray fr g true = true := by rfl) (hchk : chkQ l done i = true := by kernel_rfl) : Sd P l Q L W n κ (fuel + 1) done fr cs := .q i hi (have := h.2.2; by rw [← hr]; exact .eqs h.1 h.2.1 h1.1 h1.2) kk hd hw hchk
theorem St.net {m : Nat} (xs ys : List Value) {r : Bool} (hr : (!rowEq xs ys) = r) (h1 : (xs.length = m ∧ fitT P 20 T xs = true) ∧ (ys.length = m ∧ fitT P 20 T ys = true)) (kk : St P ops Q n κ rest ((d, .bool r) :: fr) cs) (h : ev fr x = some (.agg xs.toArray) ∧ ev fr y = some (.agg ys.toArray) ∧ EqT P T m := by refine ⟨rfl, rfl, ?_⟩; infer_instance) (hd : Nat.blt d n.n = true := by rfl) (hw : wantedF ops fr g true = true := by rfl) : St P ops Q n κ (⟨some d, .binOp .neq T x y U, ty, pos, af, g⟩ :: rest) fr cs := .q (have := h.2.2; by rw [← hr]; exact .nes h.1 h.2.1 h1.1 h1.2) kk hd hw
theorem Sd.net {m : Nat} (xs ys : List Value) {r : Bool} (hr : (!rowEq xs ys) = r) (h1 : (xs.length = m ∧ fitT P 20 T xs = true) ∧ (ys.length = m ∧ fitT P 20 T ys = true)) (i : Nat) (kk : Sd P l Q L W n κ fuel (i :: done) ((d, .bool r) :: fr) cs) (hi : getO l i = some ⟨some d, .binOp .neq T x y U, ty, pos, af, g⟩ := by rfl) (h : ev fr x = some (.agg xs.toArray) ∧ ev fr y = some (.agg ys.toArray) ∧ EqT P T m := by refine ⟨rfl, rfl, ?_⟩; infer_instance) (hd : Nat.blt d n.n = true := by rfl) (hw : wantedF l.toArray fr g true = true := by rfl) (hchk : chkQ l done i = true := by kernel_rfl) : Sd P l Q L W n κ (fuel + 1) done fr cs := .q i hi (have := h.2.2; by rw [← hr]; exact .nes h.1 h.2.1 h1.1 h1.2) kk hd hw hchk
theorem St.nl {p : Option Addr} {len cap : Nat} (kk : St P ops Q n κ rest ((d, .bool p.isNone) :: fr) cs) (h : ev fr x = some (.slice p len cap) ∧ ev fr y = some (.slice none 0 0) ∧ Sn P T := by refine ⟨rfl, rfl, ?_⟩; infer_instance) (hd : Nat.blt d n.n = true := by rfl) (hw : wantedF ops fr g true = true := by rfl) : St P ops Q n κ (⟨some d, .binOp .eql T x y U, ty, pos, af, g⟩ :: rest) fr cs := .q (have := h.2.2; .eqNil h.1 h.2.1) kk hd hw
theorem Sd.nl {p : Option Addr} {len cap : Nat} (i : Nat) (kk : Sd P l Q L W n κ fuel (i :: done) ((d, .bool p.isNone) :: fr) cs) (hi : getO l i = some ⟨some d, .binOp .eql T x y U, ty, pos, af, g⟩ := by rfl) (h : ev fr x = some (.slice p len cap) ∧ ev fr y = some (.slice none 0 0) ∧ Sn P T := by refine ⟨rfl, rfl, ?_⟩; infer_instance) (hd : Nat.blt d n.n = true := by rfl) (hw : wantedF l.toArray fr g true = true := by rfl) (hchk : chkQ l done i = true := by kernel_rfl) : Sd P l Q L W n κ (fuel + 1) done fr cs := .q i hi (have := h.2.2; .eqNil h.1 h.2.1) kk hd hw hchk
theorem St.nnl {p : Option Addr} {len cap : Nat} (kk : St P ops Q n κ rest ((d, .bool (!p.isNone)) :: fr) cs) (h : ev fr x = some (.slice p len cap) ∧ ev fr y = some (.slice none 0 0) ∧ Sn P T := by refine ⟨rfl, rfl, ?_⟩; infer_instance) (hd : Nat.blt d n.n = true := by rfl) (hw : wantedF ops fr g true = true := by rfl) : St P ops Q n κ (⟨some d, .binOp .neq T x y U, ty, pos, af, g⟩ :: rest) fr cs := .q (have := h.2.2; .neNil h.1 h.2.1) kk hd hw
theorem Sd.nnl {p : Option Addr} {len cap : Nat} (i : Nat) (kk : Sd P l Q L W n κ fuel (i :: done) ((d, .bool (!p.isNone)) :: fr) cs) (hi : getO l i = some ⟨some d, .binOp .neq T x y U, ty, pos, af, g⟩ := by rfl) (h : ev fr x = some (.slice p len cap) ∧ ev fr y = some (.slice none 0 0) ∧ Sn P T := by refine ⟨rfl, rfl, ?_⟩; infer_instance) (hd : Nat.blt d n.n = true := by rfl) (hw : wantedF l.toArray fr g true = true := by rfl) (hchk : chkQ l done i = true := by kernel_rfl) : Sd P l Q L W n κ (fuel + 1) done fr cs := .q i hi (have := h.2.2; .neNil h.1 h.2.1) kk hd hw hchk
theorem St.pnl {p : Option Addr} (kk : St P ops Q n κ rest ((d, .bool p.isNone) :: fr) cs) (h : ev fr x = some (.pointer p) ∧ ev fr y = some (.pointer none) ∧ Pn P T := by refine ⟨rfl, rfl, ?_⟩; infer_instance) (hd : Nat.blt d n.n = true := by rfl) (hw : wantedF ops fr g true = true := by rfl) : St P ops Q n κ (⟨some d, .binOp .eql T x y U, ty, pos, af, g⟩ :: rest) fr cs := .q (have := h.2.2; .eqPNil h.1 h.2.1) kk hd hw
theorem Sd.pnl {p : Option Addr} (i : Nat) (kk : Sd P l Q L W n κ fuel (i :: done) ((d, .bool p.isNone) :: fr) cs) (hi : getO l i = some ⟨some d, .binOp .eql T x y U, ty, pos, af, g⟩ := by rfl) (h : ev fr x = some (.pointer p) ∧ ev fr y = some (.pointer none) ∧ Pn P T := by refine ⟨rfl, rfl, ?_⟩; infer_instance) (hd : Nat.blt d n.n = true := by rfl) (hw : wantedF l.toArray fr g true = true := by rfl) (hchk : chkQ l done i = true := by kernel_rfl) : Sd P l Q L W n κ (fuel + 1) done fr cs := .q i hi (have := h.2.2; .eqPNil h.1 h.2.1) kk hd hw hchk
theorem St.pnn {p : Option Addr} (kk : St P ops Q n κ rest ((d, .bool (!p.isNone)) :: fr) cs) (h : ev fr x = some (.pointer p) ∧ ev fr y = some (.pointer none) ∧ Pn P T := by refine ⟨rfl, rfl, ?_⟩; infer_instance) (hd : Nat.blt d n.n = true := by rfl) (hw : wantedF ops fr g true = true := by rfl) : St P ops Q n κ (⟨some d, .binOp .neq T x y U, ty, pos, af, g⟩ :: rest) fr cs := .q (have := h.2.2; .nePNil h.1 h.2.1) kk hd hw
theorem Sd.pnn {p : Option Addr} (i : Nat) (kk : Sd P l Q L W n κ fuel (i :: done) ((d, .bool (!p.isNone)) :: fr) cs) (hi : getO l i = some ⟨some d, .binOp .neq T x y U, ty, pos, af, g⟩ := by rfl) (h : ev fr x = some (.pointer p) ∧ ev fr y = some (.pointer none) ∧ Pn P T := by refine ⟨rfl, rfl, ?_⟩; infer_instance) (hd : Nat.blt d n.n = true := by rfl) (hw : wantedF l.toArray fr g true = true := by rfl) (hchk : chkQ l done i = true := by kernel_rfl) : Sd P l Q L W n κ (fuel + 1) done fr cs := .q i hi (have := h.2.2; .nePNil h.1 h.2.1) kk hd hw hchk
theorem St.mf {fn : Fn} {fi ca : List Operand} {v1 v2 : List Value} (kk : St P ops Q n κ rest ((d, .func fn v1.toArray v2.toArray) :: fr) cs) (h : evs fr fi = some v1 ∧ evs fr ca = some v2 := by exact ⟨rfl, rfl⟩) (hd : Nat.blt d n.n = true := by rfl) (hw : wantedF ops fr g true = true := by rfl) : St P ops Q n κ (⟨some d, .makeFunc fn fi.toArray ca.toArray, ty, pos, af, g⟩ :: rest) fr cs := .q (.makeFunc h.1 h.2) kk hd hw
theorem Sd.mf {fn : Fn} {fi ca : List Operand} {v1 v2 : List Value} (i : Nat) (kk : Sd P l Q L W n κ fuel (i :: done) ((d, .func fn v1.toArray v2.toArray) :: fr) cs) (hi : getO l i = some ⟨some d, .makeFunc fn fi.toArray ca.toArray, ty, pos, af, g⟩ := by rfl) (h : evs fr fi = some v1 ∧ evs fr ca = some v2 := by exact ⟨rfl, rfl⟩) (hd : Nat.blt d n.n = true := by rfl) (hw : wantedF l.toArray fr g true = true := by rfl) (hchk : chkQ l done i = true := by kernel_rfl) : Sd P l Q L W n κ (fuel + 1) done fr cs := .q i hi (.makeFunc h.1 h.2) kk hd hw hchk
theorem St.slc {E : TypeId} {m by_ : Nat} {lo hi0 : Option Operand} {p : Option Addr} {len cap : Nat} (lw hg : Nat) (kk : St P ops Q n κ rest ((d, .slice (if cap = lw then p else p.map (·.add (lw * m))) (hg - lw) (cap - lw)) :: fr) cs) (h : ev fr x = some (.slice p len cap) ∧ Sl P T E m by_ := by refine ⟨rfl, ?_⟩; infer_instance) (hl : Bnd fr 0 lo lw := by first | rfl | exact ⟨_, _, rfl, by omega, by omega⟩) (hh : Bnd fr len hi0 hg := by first | rfl | exact ⟨_, _, rfl, by omega, by omega⟩) (h1 : lw ≤ hg := by omega) (h2 : hg ≤ cap := by omega) (hd : Nat.blt d n.n = true := by rfl) (hw : wantedF ops fr g true = true := by rfl) : St P ops Q n κ (⟨some d, .slice T x lo hi0 none, ty, pos, af, g⟩ :: rest) fr cs := .q (have := h.2; .slc h.1 hl hh h1 h2) kk hd hw
theorem Sd.slc {E : TypeId} {m by_ : Nat} {lo hi0 : Option Operand} {p : Option Addr} {len cap : Nat} (lw hg : Nat) (i : Nat) (kk : Sd P l Q L W n κ fuel (i :: done) ((d, .slice (if cap = lw then p else p.map (·.add (lw * m))) (hg - lw) (cap - lw)) :: fr) cs) (hi : getO l i = some ⟨some d, .slice T x lo hi0 none, ty, pos, af, g⟩ := by rfl) (h : ev fr x = some (.slice p len cap) ∧ Sl P T E m by_ := by refine ⟨rfl, ?_⟩; infer_instance) (hl : Bnd fr 0 lo lw := by first | rfl | exact ⟨_, _, rfl, by omega, by omega⟩) (hh : Bnd fr len hi0 hg := by first | rfl | exact ⟨_, _, rfl, by omega, by omega⟩) (h1 : lw ≤ hg := by omega) (h2 : hg ≤ cap := by omega) (hd : Nat.blt d n.n = true := by rfl) (hw : wantedF l.toArray fr g true = true := by rfl) (hchk : chkQ l done i = true := by kernel_rfl) : Sd P l Q L W n κ (fuel + 1) done fr cs := .q i hi (have := h.2; .slc h.1 hl hh h1 h2) kk hd hw hchk
theorem St.slc3 {E : TypeId} {m by_ : Nat} {p : Option Addr} {len cap : Nat} (kk : St P ops Q n κ rest ((d, .slice p a.toNat b.toNat) :: fr) cs) (h : ev fr x = some (.slice p len cap) ∧ Sl P T E m by_ ∧ ev fr y = some (.int k a) ∧ ev fr z = some (.int j b) := by refine ⟨rfl, ?_, rfl, rfl⟩; infer_instance) (h1 : 0 ≤ a ∧ a ≤ b := by omega) (h2 : b ≤ cap := by omega) (hd : Nat.blt d n.n = true := by rfl) (hw : wantedF ops fr g true = true := by rfl) : St P ops Q n κ (⟨some d, .slice T x none (some y) (some z), ty, pos, af, g⟩ :: rest) fr cs := .q (have := h.2.1; .slc3 h.1 h.2.2.1 h.2.2.2 h1 h2) kk hd hw
theorem Sd.slc3 {E : TypeId} {m by_ : Nat} {p : Option Addr} {len cap : Nat} (i : Nat) (kk : Sd P l Q L W n κ fuel (i :: done) ((d, .slice p a.toNat b.toNat) :: fr) cs) (hi : getO l i = some ⟨some d, .slice T x none (some y) (some z), ty, pos, af, g⟩ := by rfl) (h : ev fr x = some (.slice p len cap) ∧ Sl P T E m by_ ∧ ev fr y = some (.int k a) ∧ ev fr z = some (.int j b) := by refine ⟨rfl, ?_, rfl, rfl⟩; infer_instance) (h1 : 0 ≤ a ∧ a ≤ b := by omega) (h2 : b ≤ cap := by omega) (hd : Nat.blt d n.n = true := by rfl) (hw : wantedF l.toArray fr g true = true := by rfl) (hchk : chkQ l done i = true := by kernel_rfl) : Sd P l Q L W n κ (fuel + 1) done fr cs := .q i hi (have := h.2.1; .slc3 h.1 h.2.2.1 h.2.2.2 h1 h2) kk hd hw hchk
end
end Go.Proofs.YtpcechnalfaajaaDoor

/- Where ways meet; a round's end; contracts. -/
namespace Go.Proofs.YtpcechnalfaajaaDoor
open Go

/-- A contract: the value and what is owned behind the call. -/
def Tr (P : Program) (f : FuncId) (args : List Value) (κ : Kap) (cs : List HProp) (v : Value) (cs' : List HProp) : Prop :=
  ∀ w, Sat κ w cs → Calls P f args.toArray w fun e w' => e = .returned v ∧ Sat κ w' cs'
/-- A contract that leaves something open. -/
def Te {ι : Type} (P : Program) (f : FuncId) (args : List Value) (κ : Kap) (cs : List HProp) (p : ι → Prop) (r : ι → Value) (cs' : ι → List HProp) : Prop :=
  ∀ w, Sat κ w cs → Calls P f args.toArray w fun e w' => ∃ i, p i ∧ e = .returned (r i) ∧ Sat κ w' (cs' i)

section
variable {P : Program} {ops : Array Oper} {Q : Exit → Act → World → Prop} {n : Nd} {κ : Kap} {rest : List Oper} {l : List Oper} {L : List Nat} {W : List (Nat × Nat × List Value)} {fuel : Nat} {done : List Nat} {fr : List (Nat × Value)} {cs : List HProp}

theorem Tr.enter {f : FuncId} {fn : Func} {c : Code} {args : List Value} {v : Value} {cs' : List HProp} (hf : P.funcs[f]? = some fn) (hb : fn.body = some c) (hl : Nat.ble args.length fn.ntmps = true)
    (h : Co P (bodyPost P fn fun e w' => e = .returned v ∧ Sat κ w' cs') ⟨fn.ntmps, []⟩ κ c (enumF 0 args) cs) : Tr P f args κ cs v cs' := fun _ hs => calls_enter hf hb hl hs h
theorem Te.enter {ι : Type} {f : FuncId} {fn : Func} {c : Code} {args : List Value} {p : ι → Prop} {r : ι → Value} {cs' : ι → List HProp} (hf : P.funcs[f]? = some fn) (hb : fn.body = some c) (hl : Nat.ble args.length fn.ntmps = true)
    (h : Co P (bodyPost P fn fun e w' => ∃ i, p i ∧ e = .returned (r i) ∧ Sat κ w' (cs' i)) ⟨fn.ntmps, []⟩ κ c (enumF 0 args) cs) : Te P f args κ cs p r cs' := fun _ hs => calls_enter hf hb hl hs h

theorem Co.jn {x y : Code} {ι : Type} (I : ι → List (Nat × Value)) (C : ι → List HProp) (p : ι → Prop)
    (hx : Co P (Exit.then (fun a w => ∃ i, p i ∧ Fr n a (I i) ∧ Sat κ w (C i)) Q) n κ x fr cs) (hy : ∀ i, p i → Co P Q n κ y (I i) (C i)) : Co P Q n κ (.seq x y) fr cs := by
  intro a w hf hs
  refine wp_seq (wp_mono (hx a w hf hs) fun e a w h => ?_)
  cases e with
  | normal => obtain ⟨i, hp, h1, h2⟩ := h; exact hy i hp a w h1 h2
  | _ => exact h
theorem St.to {ι : Type} {I : ι → List (Nat × Value)} {C : ι → List HProp} {p : ι → Prop} (i : ι) (hp : p i) (h0 : allLook fr (I i)) (hc : ∀ w, Sat κ w cs → Sat κ w (C i) := by exact fun _ h => h)
    (hq : ∀ a w, (∃ i, p i ∧ Fr n a (I i) ∧ Sat κ w (C i)) → Q .normal a w := by exact fun _ _ h => h) : St P ops Q n κ [] fr cs := fun a w hf hs => wpListY_nil ▸ hq a w ⟨i, hp, hf.to h0, hc w hs⟩
theorem Co.to {ι : Type} {I : ι → List (Nat × Value)} {C : ι → List HProp} {p : ι → Prop} (i : ι) (hp : p i) (h0 : allLook fr (I i)) (hc : ∀ w, Sat κ w cs → Sat κ w (C i) := by exact fun _ h => h)
    (hq : ∀ a w, (∃ i, p i ∧ Fr n a (I i) ∧ Sat κ w (C i)) → Q .normal a w := by exact fun _ _ h => h) : Co P Q n κ .skip fr cs := fun a w hf hs => wp_skip (hq a w ⟨i, hp, hf.to h0, hc w hs⟩)
theorem Co.xto {ι : Type} {I : ι → List (Nat × Value)} {C : ι → List HProp} {p : ι → Prop} {id : Nat} (i : ι) (hp : p i) (h0 : allLook fr (I i)) (hc : ∀ w, Sat κ w cs → Sat κ w (C i) := by exact fun _ h => h)
    (hq : ∀ a w, (∃ i, p i ∧ Fr n a (I i) ∧ Sat κ w (C i)) → Q (.exit id) a w := by exact fun _ _ h => h) : Co P Q n κ (.exit id) fr cs := fun a w hf hs => wp_exit (hq a w ⟨i, hp, hf.to h0, hc w hs⟩)
theorem Sd.to {ι : Type} {I : ι → List (Nat × Value)} {C : ι → List HProp} {p : ι → Prop} (i : ι) (hp : p i) (h0 : allLook fr (I i)) (hc : ∀ w, Sat κ w cs → Sat κ w (C i) := by exact fun _ h => h)
    (hq : ∀ a w, (∃ i, p i ∧ Fr n a (I i) ∧ Sat κ w (C i)) → Q .normal a w := by exact fun _ _ h => h) (hr : Region.ready .any l.toArray (listedBy l.length done) = [] := by kernel_rfl) :
    Sd P l Q L W n κ 0 done fr cs := .nil (fun a w hf hs => hq a w ⟨i, hp, hf.to h0, hc w hs⟩) hr
/-- A round's end. -/
theorem St.nx {ι : Type} {I : ι → List (Nat × Value)} {C : ι → List HProp} {p : ι → Prop} {μ : ι → Nat} {m : Nat} (i : ι) (hp : p i) (hm : μ i < m) (h0 : allLook fr (I i)) (hc : ∀ w, Sat κ w cs → Sat κ w (C i) := by exact fun _ h => h)
    (hq : ∀ a w, (∃ j, p j ∧ μ j < m ∧ Fr n a (I j) ∧ Sat κ w (C j)) → Q .normal a w := by exact fun _ _ h => h) : St P ops Q n κ [] fr cs := fun a w hf hs => wpListY_nil ▸ hq a w ⟨i, hp, hm, hf.to h0, hc w hs⟩
theorem Co.nx {ι : Type} {I : ι → List (Nat × Value)} {C : ι → List HProp} {p : ι → Prop} {μ : ι → Nat} {m : Nat} (i : ι) (hp : p i) (hm : μ i < m) (h0 : allLook fr (I i)) (hc : ∀ w, Sat κ w cs → Sat κ w (C i) := by exact fun _ h => h)
    (hq : ∀ a w, (∃ j, p j ∧ μ j < m ∧ Fr n a (I j) ∧ Sat κ w (C j)) → Q .normal a w := by exact fun _ _ h => h) : Co P Q n κ .skip fr cs := fun a w hf hs => wp_skip (hq a w ⟨i, hp, hm, hf.to h0, hc w hs⟩)
theorem Sd.nx {ι : Type} {I : ι → List (Nat × Value)} {C : ι → List HProp} {p : ι → Prop} {μ : ι → Nat} {m : Nat} (i : ι) (hp : p i) (hm : μ i < m) (h0 : allLook fr (I i)) (hc : ∀ w, Sat κ w cs → Sat κ w (C i) := by exact fun _ h => h)
    (hq : ∀ a w, (∃ j, p j ∧ μ j < m ∧ Fr n a (I j) ∧ Sat κ w (C j)) → Q .normal a w := by exact fun _ _ h => h) (hr : Region.ready .any l.toArray (listedBy l.length done) = [] := by kernel_rfl) :
    Sd P l Q L W n κ 0 done fr cs := .nil (fun a w hf hs => hq a w ⟨i, hp, hm, hf.to h0, hc w hs⟩) hr
/-- What is owned may be said otherwise. -/
theorem St.sat {cs' : List HProp} {r : List Oper} (h : ∀ w, Sat κ w cs → Sat κ w cs') (k : St P ops Q n κ r fr cs') : St P ops Q n κ r fr cs := fun a w hf hs => k a w hf (h w hs)
theorem Co.sat {cs' : List HProp} {c : Code} (h : ∀ w, Sat κ w cs → Sat κ w cs') (k : Co P Q n κ c fr cs') : Co P Q n κ c fr cs := fun a w hf hs => k a w hf (h w hs)
theorem Co.satx {ι : Type} {cs' : ι → List HProp} {p : ι → Prop} {c : Code} (h : ∀ w, Sat κ w cs → ∃ i, p i ∧ Sat κ w (cs' i)) (k : ∀ i, p i → Co P Q n κ c fr (cs' i)) : Co P Q n κ c fr cs :=
  fun a w hf hs => let ⟨i, hp, h'⟩ := h w hs; k i hp a w hf h'
theorem St.satx {ι : Type} {cs' : ι → List HProp} {p : ι → Prop} {r : List Oper} (h : ∀ w, Sat κ w cs → ∃ i, p i ∧ Sat κ w (cs' i)) (k : ∀ i, p i → St P ops Q n κ r fr (cs' i)) : St P ops Q n κ r fr cs :=
  fun a w hf hs => let ⟨i, hp, h'⟩ := h w hs; k i hp a w hf h'
theorem Sd.satx {ι : Type} {cs' : ι → List HProp} {p : ι → Prop} (h : ∀ w, Sat κ w cs → ∃ i, p i ∧ Sat κ w (cs' i)) (k : ∀ i, p i → Sd P l Q L W n κ fuel done fr (cs' i)) : Sd P l Q L W n κ fuel done fr cs :=
  fun a w hf hs => let ⟨i, hp, h'⟩ := h w hs; k i hp a w hf h'
theorem Co.fra {fr' : List (Nat × Value)} {c : Code} (h : allLook fr fr') (k : Co P Q n κ c fr' cs) : Co P Q n κ c fr cs := fun a w hf hs => k a w (hf.to h) hs
/-- A region is cut: behind so many operations the ways meet. -/
def cutO : Nat → List Oper → Option (List Oper × List Oper)
  | 0, l => some ([], l)
  | _ + 1, [] => none
  | k + 1, o :: t => match cutO k t with
    | some (a, b) => some (o :: a, b)
    | none => none
theorem cutO_eq : ∀ (k : Nat) (l l1 l2 : List Oper), cutO k l = some (l1, l2) → l = l1 ++ l2 := by
  intro k
  induction k with
  | zero => intro l l1 l2 h; simp [cutO] at h; obtain ⟨rfl, rfl⟩ := h; rfl
  | succ k ih =>
    intro l l1 l2 h
    cases l with
    | nil => simp [cutO] at h
    | cons o t =>
      simp only [cutO] at h
      cases h' : cutO k t with
      | none => rw [h'] at h; cases h
      | some ab =>
        obtain ⟨a, b⟩ := ab
        rw [h'] at h; simp at h; obtain ⟨rfl, rfl⟩ := h
        rw [ih t a b h']; rfl
theorem Oper.wp_then {o : Oper} {a : Act} {w : World} {K K' : Act → World → Prop} {K0 : Act → World → Prop} (h : ∀ a w, K a w → K' a w)
    (hh : Oper.wpY P o a w K (Exit.then K0 Q)) : Oper.wpY P o a w K' Q := by
  unfold Oper.wpY at *
  generalize (execOp a.eval o).run P w = r at *
  cases r with
  | ok n w' =>
    cases n <;> simp only [Oper.upY, Oper.upon] at hh ⊢ <;>
      first
        | exact h _ _ hh
        | exact Calls.mono hh (fun e w'' he => by cases e <;> first | exact h _ _ he | exact he)
        | exact Rows.mono hh (fun _ _ he => h _ _ he)
        | exact RoundIn.mono hh (fun e w'' he => by cases e <;> first | exact h _ _ he | exact he)
  | halt x w' => cases x <;> simp only [Oper.upY, Oper.upon] at hh ⊢ <;> exact hh
theorem wpListY_app {K : Act → World → Prop} {l1 l2 : List Oper} (hK : ∀ a w, K a w → wpListY P ops Q l2 a w) : ∀ {a : Act} {w : World}, wpListY P ops (Exit.then K Q) l1 a w → wpListY P ops Q (l1 ++ l2) a w := by
  induction l1 with
  | nil => intro a w h; rw [wpListY_nil] at h; exact hK a w h
  | cons o t ih =>
    intro a w h
    simp only [wpListY_cons, List.cons_append] at h ⊢
    split
    · rename_i hw
      rw [if_pos hw] at h
      exact Oper.wp_then (fun a w h => ih h) h
    · rename_i hw
      rw [if_neg hw] at h
      exact ih h
theorem St.cut {ι : Type} {l l1 l2 : List Oper} (k : Nat) (I : ι → List (Nat × Value)) (C : ι → List HProp) (p : ι → Prop)
    (h1 : St P ops (Exit.then (fun a w => ∃ i, p i ∧ Fr n a (I i) ∧ Sat κ w (C i)) Q) n κ l1 fr cs) (h2 : ∀ i, p i → St P ops Q n κ l2 (I i) (C i)) (hl : cutO k l = some (l1, l2) := by rfl) : St P ops Q n κ l fr cs := by
  rw [cutO_eq k l l1 l2 hl]
  intro a w hf hs
  exact wpListY_app (fun a w ⟨i, hp, hf, hs⟩ => h2 i hp a w hf hs) (h1 a w hf hs)
theorem St.caseD {r : List Oper} (p : Prop) [Decidable p] (h1 : p → St P ops Q n κ r fr cs) (h2 : ¬ p → St P ops Q n κ r fr cs) : St P ops Q n κ r fr cs := by
  by_cases h : p
  · exact h1 h
  · exact h2 h
end
end Go.Proofs.YtpcechnalfaajaaDoor
