/- Part 0 of the proof: Sl0, SlY, Sl1, Sl2, Sl3, Sl4, Sl5, Sl6. -/
import Derived.Orders
import Derived.Tactics
import Derived.KernelRfl
import Derived.OrdersIn
import Derived.TacticsIn
import Derived.OrdersHeld
import Derived.RangeFuncLeaves
import Derived.Laws.CopyRow
import Derived.Laws.Cells
import Derived.Laws.Sem
import Derived.Laws.Append
import Derived.Laws.Externs
/- A small separation logic over the model's worlds: rows of cells that a call owns, and what it may only read. -/
namespace Go.Proofs.YtpcechnalfaajaaDoor
open Go

structure Kap where
  os : Os
  tape : Nat → Question → Nat
  output : Array (Nat × ByteArray)
  ro : Nat → Option Obj

abbrev Hp := Nat → Option Obj
def Sub (h g : Hp) : Prop := ∀ b o, h b = some o → g b = some o
def Dsj (h g : Hp) : Prop := ∀ b, h b = none ∨ g b = none
abbrev HProp := Kap → Hp → Prop

def sepL (κ : Kap) : List HProp → Hp → Prop
  | [], _ => True
  | c :: cs, g => ∃ h1 h2, Sub h1 g ∧ Sub h2 g ∧ Dsj h1 h2 ∧ c κ h1 ∧ sepL κ cs h2

def wh (w : World) : Hp := fun b => w.heap[b]?

structure Sat (κ : Kap) (w : World) (cs : List HProp) : Prop where
  os : w.os = κ.os
  tape : w.tape = κ.tape
  out : w.output = κ.output
  ro : Sub κ.ro (wh w)
  ex : ∃ h, Sub h (wh w) ∧ Dsj h κ.ro ∧ sepL κ cs h

theorem Sub.refl (h : Hp) : Sub h h := fun _ _ e => e
theorem Sub.trans {a b c : Hp} (h : Sub a b) (k : Sub b c) : Sub a c := fun x o e => k x o (h x o e)
theorem Dsj.symm {a b : Hp} (h : Dsj a b) : Dsj b a := fun x => (h x).symm
theorem Dsj.sub {a b a' b' : Hp} (h : Dsj a b) (k : Sub a' a) (l : Sub b' b) : Dsj a' b' := by
  intro x
  rcases h x with e | e
  · left
    cases h' : a' x with
    | none => rfl
    | some o => rw [k x o h'] at e; cases e
  · right
    cases h' : b' x with
    | none => rfl
    | some o => rw [l x o h'] at e; cases e

theorem sepL_sub {κ : Kap} {cs : List HProp} {g g' : Hp} (h : sepL κ cs g) (k : Sub g g') : sepL κ cs g' := by
  cases cs with
  | nil => trivial
  | cons c cs =>
    obtain ⟨h1, h2, s1, s2, d, hc, hr⟩ := h
    exact ⟨h1, h2, s1.trans k, s2.trans k, d, hc, hr⟩

def join (a b : Hp) : Hp := fun x => match a x with | some o => some o | none => b x
theorem join_sub {a b g : Hp} (h : Sub a g) (k : Sub b g) : Sub (join a b) g := by
  intro x o e
  unfold join at e
  cases h' : a x with
  | none => rw [h'] at e; exact k x o e
  | some o' => rw [h'] at e; cases e; exact h x _ h'
theorem sub_join_l (a b : Hp) : Sub a (join a b) := by intro x o e; simp [join, e]
theorem sub_join_r {a b : Hp} (d : Dsj a b) : Sub b (join a b) := by
  intro x o e
  rcases d x with h | h
  · simp [join, h, e]
  · rw [h] at e; cases e
theorem dsj_join {a b c : Hp} (h : Dsj c a) (k : Dsj c b) : Dsj c (join a b) := by
  intro x
  rcases h x with e | e
  · exact .inl e
  · rcases k x with e' | e'
    · exact .inl e'
    · right; simp [join, e, e']

theorem sepL_swap {κ : Kap} {c d : HProp} {t : List HProp} {g : Hp} (h : sepL κ (c :: d :: t) g) : sepL κ (d :: c :: t) g := by
  obtain ⟨h1, h2, s1, s2, dj, hc, h3, h4, s3, s4, dj2, hd, ht⟩ := h
  refine ⟨h3, join h1 h4, s3.trans s2, join_sub s1 (s4.trans s2), ?_, hd, h1, h4, sub_join_l _ _, sub_join_r ?_, ?_, hc, ht⟩
  · exact dsj_join (Dsj.sub dj (Sub.refl _) s3).symm dj2
  · exact Dsj.sub dj (Sub.refl _) s4
  · exact Dsj.sub dj (Sub.refl _) s4

theorem sepL_tail {κ : Kap} {c : HProp} {t t' : List HProp} (h : ∀ g, sepL κ t g → sepL κ t' g) {g : Hp} (k : sepL κ (c :: t) g) : sepL κ (c :: t') g := by
  obtain ⟨h1, h2, s1, s2, d, hc, hr⟩ := k
  exact ⟨h1, h2, s1, s2, d, hc, h _ hr⟩

/-- Among 'cs' stands 'R k x'; 'F c' is 'cs' with 'c' in its place. -/
class Ob {K α : Type} (R : K → α → HProp) (k : K) (cs : List HProp) (x : outParam α) (F : outParam (HProp → List HProp)) : Prop where
  out : ∃ Fr : List HProp, (∀ κ g, sepL κ cs g → sepL κ (R k x :: Fr) g) ∧ (∀ c κ g, sepL κ (c :: Fr) g → sepL κ (F c) g)

instance (priority := 100) Ob.tail {K α : Type} {R : K → α → HProp} {k : K} {c : HProp} {t : List HProp} {x : α} {F : HProp → List HProp} [h : Ob R k t x F] :
    Ob R k (c :: t) x (fun y => c :: F y) where
  out := by
    obtain ⟨Fr, h1, h2⟩ := h.out
    exact ⟨c :: Fr, fun κ g k => sepL_swap (sepL_tail (h1 κ) k), fun y κ g k => sepL_tail (h2 y κ) (sepL_swap k)⟩
instance Ob.head {K α : Type} {R : K → α → HProp} {k : K} {t : List HProp} {x : α} : Ob R k (R k x :: t) x (fun y => y :: t) where
  out := ⟨t, fun _ _ h => h, fun _ _ _ h => h⟩

theorem Sat.imp {κ : Kap} {w : World} {cs cs' : List HProp} (h : Sat κ w cs) (k : ∀ g, sepL κ cs g → sepL κ cs' g) : Sat κ w cs' :=
  ⟨h.os, h.tape, h.out, h.ro, let ⟨g, a, b, c⟩ := h.ex; ⟨g, a, b, k g c⟩⟩

theorem Sat.get {K α : Type} {R : K → α → HProp} {k : K} {cs : List HProp} {x : α} {F : HProp → List HProp} [o : Ob R k cs x F] {κ : Kap} {w : World} (h : Sat κ w cs) :
    ∃ Fr : List HProp, Sat κ w (R k x :: Fr) ∧ ∀ c κ w', Sat κ w' (c :: Fr) → Sat κ w' (F c) := by
  obtain ⟨Fr, h1, h2⟩ := o.out
  exact ⟨Fr, h.imp (h1 κ), fun y κ w' k => k.imp (h2 y κ)⟩

/-- A row of cells that is owned. -/
def pts (b : Nat) (x : TypeId × List Value) : HProp := fun _ h => h = fun b' => if b' = b then some (.cells x.2.toArray x.1 (0, 0)) else none

theorem Sat.pts_heap {κ : Kap} {w : World} {b : Nat} {x : TypeId × List Value} {Fr : List HProp} (h : Sat κ w (pts b x :: Fr)) :
    w.heap[b]? = some (.cells x.2.toArray x.1 (0, 0)) := by
  obtain ⟨g, s, _, h1, h2, s1, _, _, hc, _⟩ := h.ex
  have e : h1 b = some (.cells x.2.toArray x.1 (0, 0)) := by rw [hc]; simp
  exact s b _ (s1 b _ e)

/-- A world that differs from another in one row of cells. -/
def putRow (w : World) (b : Nat) (o : Obj) : World := { w with heap := w.heap.setIfInBounds b o }

theorem Sat.pts_put {κ : Kap} {w : World} {b : Nat} {x y : TypeId × List Value} {Fr : List HProp} (h : Sat κ w (pts b x :: Fr)) :
    Sat κ (putRow w b (.cells y.2.toArray y.1 (0, 0))) (pts b y :: Fr) := by
  have hb := h.pts_heap
  have hlt : b < w.heap.size := by
    rcases Nat.lt_or_ge b w.heap.size with h' | h'
    · exact h'
    · simp [Array.getElem?_eq_none h'] at hb
  obtain ⟨g, s, dr, h1, h2, s1, s2, d, hc, hr⟩ := h.ex
  have e1 : h1 b = some (.cells x.2.toArray x.1 (0, 0)) := by rw [hc]; simp
  have g2 : h2 b = none := by rcases d b with e | e; rw [e1] at e; cases e; exact e
  have rb : κ.ro b = none := by
    rcases dr b with e | e
    · rw [s1 b _ e1] at e; cases e
    · exact e
  have other : ∀ x', x' ≠ b → wh (putRow w b (.cells y.2.toArray y.1 (0, 0))) x' = wh w x' := by
    intro x' hx
    simp only [wh, putRow]
    rw [Array.getElem?_setIfInBounds_ne (Ne.symm hx)]
  have atb : wh (putRow w b (.cells y.2.toArray y.1 (0, 0))) b = some (.cells y.2.toArray y.1 (0, 0)) := by
    simp only [wh, putRow]
    simp [hlt]
  refine ⟨h.os, h.tape, h.out, ?_, join (fun b' => if b' = b then some (.cells y.2.toArray y.1 (0, 0)) else none) h2, ?_, ?_, ?_⟩
  · intro x' o e
    have : x' ≠ b := fun k => by rw [k, rb] at e; cases e
    rw [other x' this]; exact h.ro x' o e
  · refine join_sub ?_ ?_
    · intro x' o e
      by_cases k : x' = b
      · subst k; simp at e; rw [atb, e]
      · simp [k] at e
    · intro x' o e
      have : x' ≠ b := fun k => by rw [k, g2] at e; cases e
      rw [other x' this]; exact s x' o (s2 x' o e)
  · refine Dsj.symm (dsj_join ?_ ?_)
    · intro x'
      by_cases k : x' = b
      · left; rw [k]; exact rb
      · right; simp [k]
    · exact (Dsj.sub dr s2 (Sub.refl _)).symm
  · refine ⟨_, h2, sub_join_l _ _, sub_join_r ?_, ?_, rfl, hr⟩
    all_goals
      intro x'
      by_cases k : x' = b
      · right; rw [k]; exact g2
      · left; simp [k]

/-- A new row of cells. -/
theorem Sat.pts_new {κ : Kap} {w : World} {cs : List HProp} (h : Sat κ w cs) (x : TypeId × List Value) :
    Sat κ { w with heap := w.heap.push (.cells x.2.toArray x.1 (0, 0)) } (pts w.heap.size x :: cs) := by
  obtain ⟨g, s, dr, hr⟩ := h.ex
  have fresh : ∀ (k : Hp), Sub k (wh w) → k w.heap.size = none := by
    intro k hk
    cases e : k w.heap.size with
    | none => rfl
    | some o => have := hk _ _ e; simp [wh] at this
  have old : ∀ x' o, wh w x' = some o → wh { w with heap := w.heap.push (.cells x.2.toArray x.1 (0, 0)) } x' = some o := by
    intro x' o e
    simp only [wh] at e ⊢
    have hlt : x' < w.heap.size := by
      rcases Nat.lt_or_ge x' w.heap.size with h' | h'
      · exact h'
      · simp [Array.getElem?_eq_none h'] at e
    rw [Array.getElem?_push_lt hlt]
    rw [Array.getElem?_eq_getElem hlt] at e
    exact e
  have d0 : Dsj (fun b' => if b' = w.heap.size then some (.cells x.2.toArray x.1 (0, 0)) else none) g := by
    intro x'
    by_cases k : x' = w.heap.size
    · right; rw [k]; exact fresh g s
    · left; simp [k]
  refine ⟨h.os, h.tape, h.out, fun x' o e => old x' o (h.ro x' o e), join (fun b' => if b' = w.heap.size then some (.cells x.2.toArray x.1 (0, 0)) else none) g, ?_, ?_, ?_⟩
  · refine join_sub ?_ fun x' o e => old x' o (s x' o e)
    intro x' o e
    by_cases k : x' = w.heap.size
    · subst k; simp at e; simp [wh, e]
    · simp [k] at e
  · refine Dsj.symm (dsj_join ?_ dr.symm)
    intro x'
    by_cases k : x' = w.heap.size
    · left; rw [k]; exact fresh _ h.ro
    · right; simp [k]
  · exact ⟨_, g, sub_join_l _ _, sub_join_r d0, d0, rfl, hr⟩

/-- The count of draws says nothing. -/
theorem Sat.drawn {κ : Kap} {w : World} {cs : List HProp} (h : Sat κ w cs) (n : Nat) : Sat κ { w with drawn := n } cs :=
  ⟨h.os, h.tape, h.out, h.ro, h.ex⟩

/-- A fact that asks for no memory. -/
def fact (p : Prop) : HProp := fun _ _ => p
/-- Rows that are there for good. -/
def rdo (b : Nat) (x : TypeId × List Value) : HProp := fun κ _ => ∃ fz, κ.ro b = some (.cells x.2.toArray x.1 fz)

/-- A slice that owns its row: so many cells, and what is spare behind them. -/
def sl (sz : Nat) (s : Value) (x : TypeId × List Value) : HProp := fun κ h =>
  ∃ p n cap, s = .slice p n cap ∧ x.2.length = n * sz ∧ n ≤ cap ∧ match p with
    | none => n = 0 ∧ cap = 0
    | some a => ∃ b sp, a = ⟨b, 0, none⟩ ∧ (cap - n) * sz ≤ sp.length ∧ pts b (x.1, x.2 ++ sp) κ h

/-- Block 'b' can be read: it begins with these cells. -/
class Rd (b : Nat) (cs : List HProp) (l : outParam (List Value)) : Prop where
  out : ∀ {κ w}, Sat κ w cs → l ≠ [] → ∃ T sp fz, w.heap[b]? = some (.cells (l ++ sp).toArray T fz)
instance (priority := 100) Rd.tail {b : Nat} {c : HProp} {t : List HProp} {x : List Value} [h : Rd b t x] : Rd b (c :: t) x where
  out := fun {_ _} k hx => h.out (k.imp fun g hg => by
    obtain ⟨h1, h2, s1, s2, d, hc, hr⟩ := hg
    exact sepL_sub hr s2) hx
instance Rd.head {b : Nat} {t : List HProp} {T : TypeId} {l : List Value} : Rd b (pts b (T, l) :: t) l where
  out := fun {_ _} k _ => ⟨T, [], (0, 0), by rw [k.pts_heap]; simp⟩
instance Rd.headRo {b : Nat} {t : List HProp} {T : TypeId} {l : List Value} : Rd b (rdo b (T, l) :: t) l where
  out := fun {κ w} k _ => by
    obtain ⟨g, _, _, h1, h2, _, _, _, ⟨fz, hc⟩, _⟩ := k.ex
    exact ⟨T, [], fz, by rw [← wh, k.ro _ _ hc]; simp⟩
instance Rd.headSl {sz b n cap : Nat} {t : List HProp} {T : TypeId} {l : List Value} : Rd b (sl sz (.slice (some ⟨b, 0, none⟩) n cap) (T, l) :: t) l where
  out := fun {κ w} k hl => by
    obtain ⟨g, s0, _, h1, h2, s1, _, _, ⟨p, n', cap', hs, hn, _, hp⟩, _⟩ := k.ex
    cases hs
    obtain ⟨b', sp, hb', _, hb⟩ := hp
    cases hb'
    refine ⟨T, sp, (0, 0), s0 _ _ (s1 _ _ ?_)⟩
    rw [hb]; simp

/-- Block 'b' can be written: 'F l'' is 'cs' with the cells l' for l (as many). -/
class Wr (b : Nat) (cs : List HProp) (l : outParam (List Value)) (F : outParam (List Value → List HProp)) : Prop where
  out : l ≠ [] → ∃ Fr : List HProp, ∀ κ g, sepL κ cs g → ∃ T sp, sepL κ (pts b (T, l ++ sp) :: Fr) g ∧
    ∀ l', l'.length = l.length → ∀ κ' g', sepL κ' (pts b (T, l' ++ sp) :: Fr) g' → sepL κ' (F l') g'
instance (priority := 100) Wr.tail {b : Nat} {c : HProp} {t : List HProp} {l : List Value} {F : List Value → List HProp} [h : Wr b t l F] :
    Wr b (c :: t) l (fun l' => c :: F l') where
  out := fun hl => by
    obtain ⟨Fr, hF⟩ := h.out hl
    refine ⟨c :: Fr, fun κ g ⟨h1, h2, s1, s2, d, hc, hr⟩ => ?_⟩
    obtain ⟨T, sp, k1, k2⟩ := hF κ h2 hr
    exact ⟨T, sp, sepL_swap ⟨h1, h2, s1, s2, d, hc, k1⟩, fun l' e κ' g' k => sepL_tail (k2 l' e κ') (sepL_swap k)⟩
instance Wr.head {b : Nat} {t : List HProp} {T : TypeId} {l : List Value} : Wr b (pts b (T, l) :: t) l (fun l' => pts b (T, l') :: t) where
  out := fun _ => ⟨t, fun κ g k => ⟨T, [], by simpa using k, fun l' _ κ' g' k' => by simpa using k'⟩⟩
instance Wr.headSl {sz b n cap : Nat} {t : List HProp} {T : TypeId} {l : List Value} :
    Wr b (sl sz (.slice (some ⟨b, 0, none⟩) n cap) (T, l) :: t) l (fun l' => sl sz (.slice (some ⟨b, 0, none⟩) n cap) (T, l') :: t) where
  out := fun hl => ⟨t, fun κ g ⟨h1, h2, s1, s2, d, ⟨p, n', cap', hs, hn, hc, hp⟩, hr⟩ => by
    cases hs
    obtain ⟨b', sp, hb', hsp, hb⟩ := hp
    cases hb'
    refine ⟨T, sp, ⟨h1, h2, s1, s2, d, hb, hr⟩, fun l' e κ' g' ⟨h1, h2, s1, s2, d, hb', hr⟩ => ⟨h1, h2, s1, s2, d, ⟨_, n, cap, rfl, by simpa [e] using hn, hc, b, sp, rfl, hsp, hb'⟩, hr⟩⟩⟩

/-- A slice that is not empty lies somewhere. -/
theorem Sat.slSome {κ : Kap} {w : World} {cs : List HProp} {sz n cap : Nat} {p : Option Addr} {x : TypeId × List Value} {F : HProp → List HProp} [o : Ob (sl sz) (.slice p n cap) cs x F]
    (h : Sat κ w cs) (hn : 0 < cap) : ∃ b, p = some ⟨b, 0, none⟩ := by
  obtain ⟨Fr, hs, _⟩ := Sat.get (o := o) h
  obtain ⟨g, _, _, h1, h2, _, _, _, ⟨p', n', cap', e, _, _, hp⟩, _⟩ := hs.ex
  cases e
  cases p with
  | none => exact absurd hp.2 (by omega)
  | some a => obtain ⟨b, sp, rfl, _⟩ := hp; exact ⟨b, rfl⟩

theorem Sat.rows {κ : Kap} {w : World} {c : HProp} {cs : List HProp} (h : Sat κ w (c :: cs)) : Sat κ w cs :=
  h.imp fun g hg => by
    obtain ⟨h1, h2, s1, s2, d, hc, hr⟩ := hg
    exact sepL_sub hr s2

/-- Two blocks that are owned are two. -/
theorem Sat.ne {κ : Kap} {w : World} {b b' : Nat} {x y : TypeId × List Value} {cs : List HProp} (h : Sat κ w (pts b x :: pts b' y :: cs)) : b ≠ b' := by
  obtain ⟨g, _, _, h1, h2, _, _, d, hc, h3, h4, s3, _, _, hc', _⟩ := h.ex
  intro e
  have e1 : h1 b = some (.cells x.2.toArray x.1 (0, 0)) := by rw [hc]; simp
  have e2 : h2 b = some (.cells y.2.toArray y.1 (0, 0)) := s3 b _ (by rw [hc', e]; simp)
  rcases d b with k | k
  · rw [e1] at k; cases k
  · rw [e2] at k; cases k

end Go.Proofs.YtpcechnalfaajaaDoor

/- What an operation must achieve, where it may begin a round of a range over a function, too. -/
namespace Go.Proofs.YtpcechnalfaajaaDoor
open Go

/-- The fence that lets everything in, within a round or not. -/
def fen (ro : Option Nat) : Fence := { Fence.wide with round := ro }
def wayY (o : Oper) (a : Act) (next : Act → World → Prop) (Q : Exit → Act → World → Prop) : Ending → World → Prop
  | .returned v, w => next (a.put o.dst v) w
  | .panicked c, w => Q (.panic c) a w
  | .outgrown, _ => LetsOut Q
def Oper.upY (P : Program) (o : Oper) (a : Act) (next : Act → World → Prop) (Q : Exit → Act → World → Prop) : Result Next → Prop
  | .ok (.round l f tmps assign body) w => RoundIn Fence.wide 0 P l f tmps assign body w (wayY o a next Q)
  | r => Oper.upon P o a next Q r
def Oper.wpY (P : Program) (o : Oper) (a : Act) (w : World) (next : Act → World → Prop) (Q : Exit → Act → World → Prop) : Prop := Oper.upY P o a next Q ((execOp a.eval o).run P w)
def NoDef (o : Oper) : Prop := ∀ c, o.op ≠ .defer c

section
variable {P : Program} {ops : Array Oper} {Q : Exit → Act → World → Prop} {o : Oper} {a : Act} {w : World} {K K' next : Act → World → Prop}
theorem Oper.wpY_mono (h : ∀ a w, K a w → K' a w) (hh : Oper.wpY P o a w K Q) : Oper.wpY P o a w K' Q := by
  unfold Oper.wpY at *
  generalize (execOp a.eval o).run P w = r at *
  cases r with
  | ok n w' =>
    cases n <;> simp only [Oper.upY, Oper.upon] at hh ⊢ <;>
      first
        | exact h _ _ hh
        | exact Calls.mono hh (fun e w'' he => by cases e <;> first | exact h _ _ he | exact he)
        | exact Rows.mono hh (fun _ _ he => h _ _ he)
        | exact RoundIn.mono hh (fun e w'' he => by cases e <;> first | exact h _ _ he | exact he)
  | halt x w' => cases x <;> simp only [Oper.upY, Oper.upon] at hh ⊢ <;> exact hh
theorem wpY_in (ro : Option Nat) (hd : ro = none ∨ NoDef o) (h : Oper.wpY P o a w next Q) : o.wpIn (fen ro) 0 P a w next Q := by
  refine ⟨fun _ _ => trivial, ?_⟩
  have e : o.semAt (fen ro).round a.eval = execOp a.eval o := by
    rcases hd with rfl | hd
    · rfl
    · exact Oper.semAt_eq _ _ _ hd
  rw [e]
  unfold Oper.wpY at h
  generalize (execOp a.eval o).run P w = r at *
  have dep : (fen ro).depth.isSome = true → 1 ≤ 0 := fun h => by cases h
  cases r with
  | ok n w' =>
    cases n <;> simp only [Oper.upY, Oper.upon, Oper.uponIn] at h ⊢ <;>
      first
        | exact h
        | exact ⟨dep, (callsIn_wide (n := 0 - 1)).2 h⟩
        | exact ⟨dep, fun c cs _ => let ⟨v, w', r, s⟩ := h c cs; ⟨v, w', r, stepsIn_wide.2 s⟩⟩
        | exact ⟨dep, RoundIn.mono (F := Fence.wide) (n := 0 - 1) h (fun e w'' he => by cases e <;> exact he)⟩
  | halt x w' => cases x <;> simp only [Oper.upY, Oper.upon, Oper.uponIn] at h ⊢ <;> exact h

def wpListY (P : Program) (ops : Array Oper) (Q : Exit → Act → World → Prop) : List Oper → Act → World → Prop
  | [], a, w => Q .normal a w
  | o :: rest, a, w => if Region.wanted o (yielded ops a.tmps) then Oper.wpY P o a w (wpListY P ops Q rest) Q else wpListY P ops Q rest (a.put o.dst undef) w
theorem wpListY_in (ro : Option Nat) : ∀ (l : List Oper), (ro = none ∨ ∀ o ∈ l, NoDef o) → ∀ a w, wpListY P ops Q l a w → wpListIn (fen ro) 0 P ops Q l a w := by
  intro l
  induction l with
  | nil => intro _ a w h; exact h
  | cons o l ih =>
    intro hd a w h
    simp only [wpListY] at h
    simp only [wpListIn]
    have ih := ih (hd.imp id fun h o ho => h o (List.mem_cons_of_mem _ ho))
    split
    · rename_i hw
      rw [if_pos hw] at h
      exact Oper.wpIn_mono ih (wpY_in ro (hd.imp id fun h => h o (List.mem_cons_self ..)) h)
    · rename_i hw
      rw [if_neg hw] at h
      exact ⟨fun _ _ => trivial, ih _ _ h⟩
theorem wp_region_litY {id : Nat} {l : List Oper} (h : wpListY P l.toArray Q l a w) : (Code.region id l.toArray false).wp P Q a w :=
  (wpIn_wide (n := 0)).1 (wpIn_region_lit (F := Fence.wide) (wpListY_in none l (.inl rfl) a w h))
theorem wpR_region_litY {ro : Option Nat} {id : Nat} {l : List Oper} (hd : ∀ o ∈ l, NoDef o) (h : wpListY P l.toArray Q l a w) : (Code.region id l.toArray false).wpIn (fen ro) 0 P Q a w :=
  wpIn_region_lit (wpListY_in ro l (.inr hd) a w h)

def wpOpY (P : Program) (ops : Array Oper) (Q : Exit → Act → World → Prop) (i : Nat) (K : Act → World → Prop) (a : Act) (w : World) : Prop :=
  match ops[i]? with
  | none => K a w
  | some o => if Region.wanted o (yielded ops a.tmps) then Oper.wpY P o a w K Q else K (a.put o.dst undef) w
theorem wpOpY_mono {i : Nat} (h : ∀ a w, K a w → K' a w) (hh : wpOpY P ops Q i K a w) : wpOpY P ops Q i K' a w := by
  unfold wpOpY at *
  split
  · rename_i ho; rw [ho] at hh; exact h _ _ hh
  · rename_i o ho
    rw [ho] at hh
    simp only at hh
    split
    · rename_i hw; rw [if_pos hw] at hh; exact Oper.wpY_mono h hh
    · rename_i hw; rw [if_neg hw] at hh; exact h _ _ hh
def wpAnyY (P : Program) (ops : Array Oper) (Q : Exit → Act → World → Prop) : Nat → Array Bool → Act → World → Prop
  | 0, listed, a, w => Region.ready .any ops listed = [] ∧ Q .normal a w
  | fuel + 1, listed, a, w => (Region.ready .any ops listed = [] → Q .normal a w) ∧
    ∀ i ∈ Region.ready .any ops listed, wpOpY P ops Q i (wpAnyY P ops Q fuel (listed.setIfInBounds i true)) a w
theorem wpAnyY_in (ro : Option Nat) (hd : ro = none ∨ ∀ (i : Nat) o, ops[i]? = some o → NoDef o) : ∀ (fuel : Nat) (listed : Array Bool) (a : Act) (w : World), wpAnyY P ops Q fuel listed a w → wpAnyIn (fen ro) 0 P .any ops Q fuel listed a w := by
  intro fuel
  induction fuel with
  | zero => intro listed a w h; exact h
  | succ fuel ih =>
    intro listed a w h
    refine ⟨h.1, fun i hi => ?_⟩
    have h2 := wpOpY_mono (fun a w => ih _ a w) (h.2 i hi)
    unfold wpOpY at h2
    unfold wpOpIn
    split
    · rename_i ho; rw [ho] at h2; exact h2
    · rename_i o ho
      rw [ho] at h2
      simp only at h2
      split
      · rename_i hw; rw [if_pos hw] at h2; exact wpY_in ro (hd.imp id fun h => h i o ho) h2
      · rename_i hw; rw [if_neg hw] at h2; exact ⟨fun _ _ => trivial, h2⟩
theorem wp_region_anyY {id : Nat} (hm : P.follows .mixedOrders = true) (h : wpAnyY P ops Q ops.size (Array.replicate ops.size false) a { w with drawn := w.drawn + 1 }) : (Code.region id ops true).wp P Q a w :=
  (wpIn_wide (n := 0)).1 (wpIn_region_any (F := Fence.wide) hm (wpAnyY_in none (.inl rfl) _ _ _ _ h))
theorem wpR_region_anyY {ro : Option Nat} {id : Nat} (hd : ∀ (i : Nat) o, ops[i]? = some o → NoDef o) (hm : P.follows .mixedOrders = true) (h : wpAnyY P ops Q ops.size (Array.replicate ops.size false) a { w with drawn := w.drawn + 1 }) :
    (Code.region id ops true).wpIn (fen ro) 0 P Q a w :=
  wpIn_region_any hm (wpAnyY_in ro (.inr hd) _ _ _ _ h)

/-- What yields its value may be taken ahead of another operation. -/
theorem yieldsY {I : World → Prop} {i : Nat} {v : Value} (hi : ops[i]? = some o) (hy : YieldsIf P ops I o v a) (hS : I w) (h : K (a.put o.dst v) w) : wpOpY P ops Q i K a w := by
  unfold wpOpY
  rw [hi]
  simp only
  rcases hy with ⟨hw, hv⟩ | ⟨hw, rfl⟩
  · rw [if_pos hw]; simp only [Oper.wpY, hv w hS, Oper.upY, Oper.upon]; exact h
  · rw [if_neg (by rw [hw]; simp)]; exact h
theorem wpOpY_put {I : World → Prop} {j : Nat} {oi oj : Oper} {v : Value} (hj : ops[j]? = some oj) (hap : oi.apart ops oj = true) (hsi : ∀ cs b, oi.op ≠ .select cs b) (hsj : ∀ cs b, oj.op ≠ .select cs b)
    (hQ : ∀ c a w, Q (.panic c) (a.put oi.dst v) w → Q (.panic c) a w) (hy : YieldsIf P ops I oi v a) (h : wpOpY P ops Q j K (a.put oi.dst v) w) :
    wpOpY P ops Q j (fun a' w' => YieldsIf P ops I oi v a' ∧ K (a'.put oi.dst v) w') a w := by
  obtain ⟨h1, h2, h3⟩ := Oper.apart_spec hap
  have keep : ∀ (a : Act), YieldsIf P ops I oi v a → ∀ u, YieldsIf P ops I oi v (a.put oj.dst u) := fun a hy u => hy.of_same (execOp_put oi hsi a oj.dst u h3) (wanted_put oi a oj.dst u h3)
  have way : ∀ e w'', wayY oj (a.put oi.dst v) K Q e w'' → wayY oj a (fun a' w' => YieldsIf P ops I oi v a' ∧ K (a'.put oi.dst v) w') Q e w'' := by
    intro e w'' he
    cases e with
    | returned u => exact ⟨keep a hy u, by rw [← Act.put_comm a v u h2]; exact he⟩
    | panicked c => exact hQ _ _ _ he
    | outgrown => exact he
  unfold wpOpY at *
  rw [hj] at *
  simp only at *
  rw [wanted_put oj a oi.dst v h1] at h
  split
  · rename_i hw
    rw [if_pos hw] at h
    unfold Oper.wpY at *
    rw [execOp_put oj hsj a oi.dst v h1] at h
    generalize (execOp a.eval oj).run P w = r at *
    cases r with
    | ok n w' =>
      cases n <;> simp only [Oper.upY, Oper.upon] at h ⊢
      case value u => exact ⟨keep a hy u, by rw [← Act.put_comm a v u h2]; exact h⟩
      case skip => exact ⟨keep a hy _, by rw [← Act.put_comm a v undef h2]; exact h⟩
      case defer d =>
        refine ⟨keep { a with defers := d :: a.defers } (hy.of_same rfl rfl) _, ?_⟩
        rw [← Act.put_comm _ v undef h2, ← Act.put_defers]
        exact h
      case enter f args => exact Calls.mono h fun e w'' he => by have := way e w'' (by cases e <;> exact he); cases e <;> exact this
      case row row args => exact Rows.mono h fun u w'' he => ⟨keep a hy u, by rw [← Act.put_comm a v u h2]; exact he⟩
      case round l f tmps assign body => exact RoundIn.mono h way
    | halt x w' =>
      cases x <;> simp only [Oper.upY, Oper.upon] at h ⊢
      case panic u => exact hQ _ _ _ h
  · rename_i hw
    rw [if_neg hw] at h
    exact ⟨keep a hy _, by rw [← Act.put_comm a v undef h2]; exact h⟩
theorem wpListY_nil : wpListY P ops Q [] a w = Q .normal a w := rfl
theorem wpListY_cons {rest : List Oper} : wpListY P ops Q (o :: rest) a w = if Region.wanted o (yielded ops a.tmps) then Oper.wpY P o a w (wpListY P ops Q rest) Q else wpListY P ops Q rest (a.put o.dst undef) w := rfl
end
attribute [irreducible] wpListY
end Go.Proofs.YtpcechnalfaajaaDoor

/- Frames, and the steps of a walk: what each operation of the model does to a frame and to what is owned. -/
namespace Go.Proofs.YtpcechnalfaajaaDoor
open Go

def look : List (Nat × Value) → Nat → Option Value
  | [], _ => none
  | (d, v) :: r, t => bif Nat.beq d t then some v else look r t

/-- A frame's slots, and its deferred calls. -/
structure Nd where
  n : Nat
  ds : List Deferred := []
structure Fr (n : Nd) (a : Act) (fr : List (Nat × Value)) : Prop where
  size : a.tmps.size = n.n
  defers : a.defers = n.ds
  at_ : ∀ d v, look fr d = some v → a.tmps[d]? = some v

def ev (fr : List (Nat × Value)) : Operand → Option Value
  | .tmp t => look fr t
  | .const v => some v
  | .global g => some (.pointer (some ⟨g, 0, none⟩))
  | .func f => some (.func (.func f) #[] #[])

theorem Fr.eval {n : Nd} {a : Act} {fr : List (Nat × Value)} (h : Fr n a fr) {x : Operand} {v : Value} (e : ev fr x = some v) : a.eval x = v := by
  cases x with
  | tmp t => have := h.at_ t v e; simp [Act.eval, this]
  | const c => simpa [ev, Act.eval] using e
  | global g => simpa [ev, Act.eval] using e
  | func f => simpa [ev, Act.eval] using e

theorem Fr.put {n : Nd} {a : Act} {fr : List (Nat × Value)} (h : Fr n a fr) {d : Nat} {v : Value} (hd : Nat.blt d n.n = true) : Fr n (a.put (some d) v) ((d, v) :: fr) := by
  have hlt : d < a.tmps.size := by rw [h.size]; exact Nat.blt_eq.mp hd
  refine ⟨by simp [Act.put, h.size], h.defers, fun e u he => ?_⟩
  simp only [look] at he
  cases hb : Nat.beq d e with
  | true =>
    have := Nat.eq_of_beq_eq_true hb; subst this
    simp at he; subst he
    simp [Act.put, hlt]
  | false =>
    have hne : d ≠ e := fun k => by subst k; simp [Nat.beq_refl] at hb
    simp only [hb, cond_false] at he
    simp only [Act.put]
    rw [Array.getElem?_setIfInBounds_ne hne]
    exact h.at_ e u he

theorem Fr.weaken {n : Nd} {a : Act} {fr fr' : List (Nat × Value)} (h : Fr n a fr) (k : ∀ d v, look fr' d = some v → look fr d = some v) : Fr n a fr' :=
  ⟨h.size, h.defers, fun d v e => h.at_ d v (k d v e)⟩

def wantedF (ops : Array Oper) (fr : List (Nat × Value)) (g : Option (Nat × Bool)) (want : Bool) : Bool :=
  match g with
  | none => want
  | some (j, y) => match (ops[j]?).bind (·.dst) with
    | some t => match look fr t with
      | some (.bool b) => bif want then (b == y) else !(b == y)
      | some _ => !want
      | none => false
    | none => false

theorem wanted_of {n : Nd} {a : Act} {fr : List (Nat × Value)} (h : Fr n a fr) {ops : Array Oper} {o : Oper} (k : wantedF ops fr o.guard true = true) :
    Region.wanted o (yielded ops a.tmps) = true := by
  unfold Region.wanted
  cases hg : o.guard with
  | none => rfl
  | some jy =>
    obtain ⟨j, y⟩ := jy
    rw [hg] at k
    simp only [wantedF] at k
    cases ht : (ops[j]?).bind (·.dst) with
    | none => rw [ht] at k; cases k
    | some t =>
      rw [ht] at k
      simp only at k
      cases hl : look fr t with
      | none => rw [hl] at k; cases k
      | some v =>
        rw [hl] at k
        have := h.at_ t _ hl
        simp only [yielded, ht, Option.bind_some, this]
        cases v <;> simp at k ⊢ <;> simp_all

theorem unwanted_of {n : Nd} {a : Act} {fr : List (Nat × Value)} (h : Fr n a fr) {ops : Array Oper} {o : Oper} (k : wantedF ops fr o.guard false = true) :
    Region.wanted o (yielded ops a.tmps) = false := by
  unfold Region.wanted
  cases hg : o.guard with
  | none => (rw [hg] at k; cases k)
  | some jy =>
    obtain ⟨j, y⟩ := jy
    rw [hg] at k
    simp only [wantedF] at k
    cases ht : (ops[j]?).bind (·.dst) with
    | none => rw [ht] at k; cases k
    | some t =>
      rw [ht] at k
      simp only at k
      cases hl : look fr t with
      | none => rw [hl] at k; cases k
      | some v =>
        rw [hl] at k
        have := h.at_ t _ hl
        simp only [yielded, ht, Option.bind_some, this]
        cases v <;> simp at k ⊢ <;> simp_all

/-- Operations one behind the other. -/
def St (P : Program) (ops : Array Oper) (Q : Exit → Act → World → Prop) (n : Nd) (κ : Kap) (l : List Oper) (fr : List (Nat × Value)) (cs : List HProp) : Prop :=
  ∀ a w, Fr n a fr → Sat κ w cs → wpListY P ops Q l a w
/-- A piece of code. -/
def Co (P : Program) (Q : Exit → Act → World → Prop) (n : Nd) (κ : Kap) (c : Code) (fr : List (Nat × Value)) (cs : List HProp) : Prop :=
  ∀ a w, Fr n a fr → Sat κ w cs → c.wp P Q a w
/-- An operation that gives a value, whatever the world. -/
def OpQ (P : Program) (n : Nd) (o : Oper) (fr : List (Nat × Value)) (v : Value) : Prop :=
  ∀ a w, Fr n a fr → (execOp a.eval o).run P w = .ok (.value v) w
/-- An operation that gives a value by what a block begins with. -/
def OpL (P : Program) (n : Nd) (o : Oper) (fr : List (Nat × Value)) (b : Nat) (l : List Value) (v : Value) : Prop :=
  l ≠ [] ∧ ∀ a w T sp fz, Fr n a fr → w.heap[b]? = some (.cells (l ++ sp).toArray T fz) → (execOp a.eval o).run P w = .ok (.value v) w
/-- Any other one: it is carried out, and then 'K' tells its value and what is owned. -/
def OpN (P : Program) (n : Nd) (κ : Kap) (o : Oper) (fr : List (Nat × Value)) (cs : List HProp) (K : Value → List HProp → Prop) : Prop :=
  ∀ a w (next : Act → World → Prop) (Q : Exit → Act → World → Prop), Fr n a fr → Sat κ w cs →
    (∀ v cs' w', K v cs' → Sat κ w' cs' → next (a.put o.dst v) w') → Oper.wpY P o a w next Q

section
variable {P : Program} {ops : Array Oper} {Q : Exit → Act → World → Prop} {n : Nd} {κ : Kap} {rest : List Oper} {fr : List (Nat × Value)} {cs : List HProp}
variable {d : Nat} {op : Op} {ty : TypeId} {pos : String} {af : Array Edge} {g : Option (Nat × Bool)}

theorem St.q {v : Value} (h : OpQ P n ⟨some d, op, ty, pos, af, g⟩ fr v) (k : St P ops Q n κ rest ((d, v) :: fr) cs)
    (hd : Nat.blt d n.n = true := by rfl) (hw : wantedF ops fr g true = true := by rfl) : St P ops Q n κ (⟨some d, op, ty, pos, af, g⟩ :: rest) fr cs := by
  intro a w hf hs
  simp only [wpListY_cons, wanted_of (o := ⟨some d, op, ty, pos, af, g⟩) hf hw, if_true]
  simp only [Oper.wpY, h a w hf, Oper.upY, Oper.upon]
  exact k _ _ (hf.put hd) hs

theorem St.l {v : Value} {b : Nat} {l : List Value} [hr : Rd b cs l] (h : OpL P n ⟨some d, op, ty, pos, af, g⟩ fr b l v) (k : St P ops Q n κ rest ((d, v) :: fr) cs)
    (hd : Nat.blt d n.n = true := by rfl) (hw : wantedF ops fr g true = true := by rfl) : St P ops Q n κ (⟨some d, op, ty, pos, af, g⟩ :: rest) fr cs := by
  intro a w hf hs
  simp only [wpListY_cons, wanted_of (o := ⟨some d, op, ty, pos, af, g⟩) hf hw, if_true]
  obtain ⟨T, sp, fz, hb⟩ := hr.out hs h.1
  simp only [Oper.wpY, h.2 a w T sp fz hf hb, Oper.upY, Oper.upon]
  exact k _ _ (hf.put hd) hs

theorem St.nn {K : Value → List HProp → Prop} (h : OpN P n κ ⟨some d, op, ty, pos, af, g⟩ fr cs K) (k : ∀ v cs', K v cs' → St P ops Q n κ rest ((d, v) :: fr) cs')
    (hd : Nat.blt d n.n = true := by rfl) (hw : wantedF ops fr g true = true := by rfl) : St P ops Q n κ (⟨some d, op, ty, pos, af, g⟩ :: rest) fr cs := by
  intro a w hf hs
  simp only [wpListY_cons, wanted_of (o := ⟨some d, op, ty, pos, af, g⟩) hf hw, if_true]
  exact h a w _ _ hf hs fun v cs' w' hK hs' => k v cs' hK _ _ (hf.put hd) hs'

theorem St.n0 {K : Value → List HProp → Prop} (h : OpN P n κ ⟨none, op, ty, pos, af, g⟩ fr cs K) (k : ∀ v cs', K v cs' → St P ops Q n κ rest fr cs')
    (hw : wantedF ops fr g true = true := by rfl) : St P ops Q n κ (⟨none, op, ty, pos, af, g⟩ :: rest) fr cs := by
  intro a w hf hs
  simp only [wpListY_cons, wanted_of (o := ⟨none, op, ty, pos, af, g⟩) hf hw, if_true]
  exact h a w _ _ hf hs fun v cs' w' hK hs' => k v cs' hK _ _ hf hs'

theorem St.skip (k : St P ops Q n κ rest ((d, undef) :: fr) cs)
    (hd : Nat.blt d n.n = true := by rfl) (hw : wantedF ops fr g false = true := by rfl) : St P ops Q n κ (⟨some d, op, ty, pos, af, g⟩ :: rest) fr cs := by
  intro a w hf hs
  simp only [wpListY_cons, unwanted_of (o := ⟨some d, op, ty, pos, af, g⟩) hf hw]
  exact k _ _ (hf.put hd) hs

theorem St.nil (k : ∀ a w, Fr n a fr → Sat κ w cs → Q .normal a w) : St P ops Q n κ [] fr cs := fun a w hf hs => wpListY_nil ▸ k a w hf hs
theorem St.next {y : Code} {Q' : Exit → Act → World → Prop} (k : Co P Q' n κ y fr cs) : St P ops (Exit.then (y.wp P Q') Q') n κ [] fr cs := fun a w hf hs => wpListY_nil ▸ k a w hf hs

/-- By a bool that stands in the frame. -/
theorem St.caseB {l : List Oper} (t : Nat) {b : Bool} (e : look fr t = some (.bool b)) (h1 : b = true → St P ops Q n κ l ((t, .bool true) :: fr) cs)
    (h2 : b = false → St P ops Q n κ l ((t, .bool false) :: fr) cs) : St P ops Q n κ l fr cs := by
  intro a w hf hs
  have hw : ∀ b', b = b' → Fr n a ((t, .bool b') :: fr) := by
    intro b' hb
    refine hf.weaken fun d v hl => ?_
    simp only [look] at hl
    cases hc : Nat.beq t d with
    | true => have := Nat.eq_of_beq_eq_true hc; subst this; simp at hl; rw [e, hb, hl]
    | false => simpa [hc] using hl
  cases b with
  | true => exact h1 rfl a w (hw true rfl) hs
  | false => exact h2 rfl a w (hw false rfl) hs

/-- What is not looked at any more. -/
def keep (ds : List Nat) (fr : List (Nat × Value)) : Option (List (Nat × Value)) :=
  match ds with
  | [] => some []
  | d :: ds => match look fr d, keep ds fr with
    | some v, some r => some ((d, v) :: r)
    | _, _ => none
theorem keep_look {ds : List Nat} : ∀ {fr' : List (Nat × Value)}, keep ds fr = some fr' → ∀ d v, look fr' d = some v → look fr d = some v := by
  induction ds with
  | nil => intro fr' h d v hl; simp [keep] at h; subst h; simp [look] at hl
  | cons e ds ih =>
    intro fr' h d v hl
    simp only [keep] at h
    cases h1 : look fr e with
    | none => rw [h1] at h; simp at h
    | some u =>
      cases h2 : keep ds fr with
      | none => rw [h1, h2] at h; simp at h
      | some r =>
        rw [h1, h2] at h; simp at h; subst h
        simp only [look] at hl
        cases hc : Nat.beq e d with
        | true => have := Nat.eq_of_beq_eq_true hc; subst this; simp at hl; rw [h1, hl]
        | false => simp [hc] at hl; exact ih h2 d v hl
theorem Co.keep (ds : List Nat) {fr' : List (Nat × Value)} {c : Code} (h : keep ds fr = some fr') (k : Co P Q n κ c fr' cs) : Co P Q n κ c fr cs :=
  fun a w hf hs => k a w (hf.weaken (keep_look h)) hs

theorem Co.seq {x y : Code} (k : Co P (Exit.then (y.wp P Q) Q) n κ x fr cs) : Co P Q n κ (.seq x y) fr cs := fun a w hf hs => wp_seq (k a w hf hs)
theorem Co.skip (k : ∀ a w, Fr n a fr → Sat κ w cs → Q .normal a w) : Co P Q n κ .skip fr cs := fun a w hf hs => wp_skip (k a w hf hs)
theorem Co.skipN {y : Code} {Q' : Exit → Act → World → Prop} (k : Co P Q' n κ y fr cs) : Co P (Exit.then (y.wp P Q') Q') n κ .skip fr cs := fun a w hf hs => wp_skip (k a w hf hs)
theorem Co.ret (k : ∀ a w, Fr n a fr → Sat κ w cs → Q .ret a w) : Co P Q n κ .ret fr cs := fun a w hf hs => wp_ret (k a w hf hs)
theorem Co.reg {id : Nat} {l : List Oper} (k : St P l.toArray Q n κ l fr cs) : Co P Q n κ (.region id l.toArray false) fr cs :=
  fun a w hf hs => wp_region_litY (k a w hf hs)
theorem Co.cond {c : Operand} {x y : Code} {b : Bool} (e : ev fr c = some (.bool b)) (h1 : b = true → Co P Q n κ x fr cs) (h2 : b = false → Co P Q n κ y fr cs) :
    Co P Q n κ (.cond c x y) fr cs := fun a w hf hs => wp_cond_split (hf.eval e) (fun hb => h1 hb a w hf hs) (fun hb => h2 hb a w hf hs)
theorem Co.block {id : Nat} {c : Code} (k : Co P (Exit.inBlock id Q) n κ c fr cs) : Co P Q n κ (.block id c) fr cs := fun a w hf hs => wp_block (k a w hf hs)
theorem Co.exit {id : Nat} (k : ∀ a w, Fr n a fr → Sat κ w cs → Q (.exit id) a w) : Co P Q n κ (.exit id) fr cs := fun a w hf hs => wp_exit (k a w hf hs)
theorem Co.loop {c : Code} {ι : Type} (I : ι → List (Nat × Value)) (C : ι → List HProp) (μ : ι → Nat) (i : ι)
    (h0 : ∀ d v, look (I i) d = some v → look fr d = some v) (hc : cs = C i)
    (round : ∀ i, Co P (Exit.then (fun a w => ∃ j, μ j < μ i ∧ Fr n a (I j) ∧ Sat κ w (C j)) Q) n κ c (I i) (C i)) : Co P Q n κ (.loop c) fr cs := by
  intro a w hf hs b k css
  have key : ∀ (m : Nat) (i : ι) (a : Act) (w : World), μ i = m → Fr n a (I i) → Sat κ w (C i) →
      ∃ e a' w', Q e a' w' ∧ Arrives P (lone (b.at a (.code c :: .inLoop c :: k)) css w) b k css e a' w' := by
    intro m
    induction m using Nat.strongRecOn with
    | _ m ih =>
      intro i a w hm hf hs
      obtain ⟨e, a₁, w₁, hq, harr⟩ := round i a w hf hs b (.inLoop c :: k) css
      cases e with
      | normal =>
        obtain ⟨j, hlt, hf1, hs1⟩ := hq
        obtain ⟨e₂, a₂, w₂, hq₂, harr₂⟩ := ih (μ j) (hm ▸ hlt) j a₁ w₁ rfl hf1 hs1
        exact ⟨e₂, a₂, w₂, hq₂, .of_steps (Steps.trans harr (.one step_inLoop)) harr₂⟩
      | exit id => exact ⟨_, a₁, w₁, hq, .pass (x := .inLoop c) rfl (fun _ _ => .inl (by simp)) harr⟩
      | goto l => exact ⟨_, a₁, w₁, hq, .pass (x := .inLoop c) rfl (fun _ _ => .inl (by simp)) harr⟩
      | ret => exact ⟨_, a₁, w₁, hq, .pass (x := .inLoop c) rfl (fun _ _ => .inl (by simp)) harr⟩
      | panic ch => exact ⟨_, a₁, w₁, hq, .pass (x := .inLoop c) rfl (fun _ _ => .inl (by simp)) harr⟩
      | outgrown => exact ⟨_, a₁, w₁, hq, .pass (x := .inLoop c) rfl (fun _ _ => .inl (by simp)) harr⟩
  obtain ⟨e, a', w', hq, harr⟩ := key _ i a w rfl (hf.weaken h0) (hc ▸ hs)
  exact ⟨e, a', w', hq, .of_steps (.one step_loop) harr⟩
end
end Go.Proofs.YtpcechnalfaajaaDoor

/- What each operation gives. -/
namespace Go.Proofs.YtpcechnalfaajaaDoor
open Go

/- Lists of cells, reckoned so that their spine comes out. -/
def get1 : List Value → Nat → Option Value
  | [], _ => none
  | x :: _, 0 => some x
  | _ :: t, i + 1 => get1 t i
def takeF : Nat → List Value → Option (List Value)
  | 0, _ => some []
  | _ + 1, [] => none
  | n + 1, x :: t => match takeF n t with
    | some r => some (x :: r)
    | none => none
def getN : List Value → Nat → Nat → Option (List Value)
  | l, 0, n => takeF n l
  | [], _ + 1, _ => none
  | _ :: t, o + 1, n => getN t o n
def put1 : List Value → Nat → Value → Option (List Value)
  | [], _, _ => none
  | _ :: t, 0, v => some (v :: t)
  | x :: t, i + 1, v => match put1 t i v with
    | some r => some (x :: r)
    | none => none
def putN : List Value → Nat → List Value → Option (List Value)
  | l, _, [] => some l
  | l, o, v :: vs => match put1 l o v with
    | some r => putN r (o + 1) vs
    | none => none
/-- A value's cells. -/
def vc : Value → List Value
  | .agg c => c.toList
  | v => [v]
def one1 : Value → Bool
  | .agg _ | .tuple _ => false
  | _ => true
def one : List Value → Bool
  | [] => true
  | v :: t => one1 v && one t
/-- The value at an offset. -/
def getV (agg : Bool) (l : List Value) (o m : Nat) : Option Value :=
  bif agg then (match getN l o m with | some r => some (.agg r.toArray) | none => none) else get1 l o

theorem get1_eq (l : List Value) : ∀ i, get1 l i = l[i]? := by
  induction l with
  | nil => intro i; simp [get1]
  | cons x t ih => intro i; cases i with
    | zero => rfl
    | succ i => simpa [get1] using ih i
theorem takeF_eq : ∀ (n : Nat) (l r : List Value), takeF n l = some r → r = l.take n ∧ n ≤ l.length := by
  intro n
  induction n with
  | zero => intro l r h; simp [takeF] at h; subst h; simp
  | succ n ih =>
    intro l r h
    cases l with
    | nil => simp [takeF] at h
    | cons x t =>
      simp only [takeF] at h
      cases h' : takeF n t with
      | none => rw [h'] at h; cases h
      | some r' =>
        rw [h'] at h; simp at h; subst h
        obtain ⟨e, hl⟩ := ih t r' h'
        exact ⟨by simp [e], by simp; omega⟩
theorem getN_eq : ∀ (l : List Value) (o n : Nat) (r : List Value), getN l o n = some r → r = (l.drop o).take n ∧ o + n ≤ l.length := by
  intro l
  induction l with
  | nil => intro o n r h; cases o with
    | zero => have := takeF_eq n _ r h; simpa using this
    | succ o => simp [getN] at h
  | cons x t ih => intro o n r h; cases o with
    | zero => have := takeF_eq n _ r (by simpa [getN] using h); simpa using this
    | succ o => obtain ⟨e, hl⟩ := ih o n r (by simpa [getN] using h); exact ⟨by simpa using e, by simp; omega⟩
theorem put1_eq : ∀ (l : List Value) (i : Nat) (v : Value) (r : List Value), put1 l i v = some r → r = l.set i v ∧ i < l.length := by
  intro l
  induction l with
  | nil => intro i v r h; simp [put1] at h
  | cons x t ih => intro i v r h; cases i with
    | zero => simp [put1] at h; subst h; simp
    | succ i =>
      simp only [put1] at h
      cases h' : put1 t i v with
      | none => rw [h'] at h; cases h
      | some r' => rw [h'] at h; simp at h; subst h; obtain ⟨e, hl⟩ := ih i v r' h'; exact ⟨by simp [e], by simpa using hl⟩
theorem putN_eq : ∀ (vs l : List Value) (o : Nat) (r : List Value), putN l o vs = some r → r = l.take o ++ vs ++ l.drop (o + vs.length) ∧ (vs ≠ [] → o + vs.length ≤ l.length) := by
  intro vs
  induction vs with
  | nil => intro l o r h; simp [putN] at h; subst h; simp
  | cons v vs ih =>
    intro l o r h
    simp only [putN] at h
    cases h' : put1 l o v with
    | none => rw [h'] at h; cases h
    | some r' =>
      rw [h'] at h
      obtain ⟨e, hl⟩ := put1_eq l o v r' h'
      obtain ⟨e2, hl2⟩ := ih r' (o + 1) r h
      subst e
      refine ⟨?_, fun _ => ?_⟩
      · rw [e2]
        have h1 : (l.set o v).take (o + 1) = l.take o ++ [v] := by
          rw [List.take_succ_eq_append_getElem (by simpa using hl)]
          simp [List.take_set_of_le]
        have h2 : (l.set o v).drop (o + 1 + vs.length) = l.drop (o + (vs.length + 1)) := by
          rw [List.drop_set_of_lt (by omega)]
          congr 1; omega
        rw [h1, h2]; simp
      · by_cases hv : vs = []
        · subst hv; simp; omega
        · have := hl2 hv; simp at this ⊢; omega
theorem one_spec : ∀ {l : List Value}, one l = true → ∀ v ∈ l, v.oneCell' = true := by
  intro l
  induction l with
  | nil => intro _ v hv; cases hv
  | cons x t ih =>
    intro h v hv
    simp only [one, Bool.and_eq_true] at h
    rcases List.mem_cons.1 hv with rfl | hv
    · cases v <;> simp_all [one1, Value.oneCell']
    · exact ih h.2 v hv

/-- A type: is it a struct or an array? how many cells has it? -/
class Ty (P : Program) (T : TypeId) (agg : outParam Bool) (m : outParam Nat) : Prop where
  agg : ∀ w, (isAgg T).run P w = .ok agg w
  size : ∀ w, (sizeOf T).run P w = .ok m w
/-- A field's place. -/
class Fd (P : Program) (S : TypeId) (f : Nat) (off : outParam Nat) : Prop where
  run : ∀ b o w, (Instr.fieldAt S (.pointer (some ⟨b, o, none⟩)) f).run P w = .ok (.pointer (some ⟨b, o + off, none⟩)) w
/-- A field of a struct that is no variable. -/
class Fv (P : Program) (S : TypeId) (f : Nat) (agg : outParam Bool) (off m : outParam Nat) : Prop where
  run : ∀ l w, (Instr.field S (.agg l) f).run P w = (if agg then (.ok (.agg (l.extract off (off + m))) w) else (match l[off]? with | some v => (pure v : Sem Value) | none => stuck "part: no such cell").run P w)
/-- A type's zero. -/
class Zr (P : Program) (T : TypeId) (z : outParam (List Value)) : Prop where
  run : ∀ w, ∃ v, (zeroValue T).run P w = .ok v w ∧ v.cells = z.toArray
/-- A slice type: its elements' type, their size, their bytes. -/
class Sl (P : Program) (T : TypeId) (E : outParam TypeId) (m bytes : outParam Nat) : Prop where
  und : ∀ w, (underlying T).run P w = .ok (.slice E) w
  size : ∀ w, (sizeOf E).run P w = .ok m w
  info : ∀ w, ∃ i, (typeInfo E).run P w = .ok i w ∧ i.bytes = bytes

section
variable {P : Program} {n : Nd} {κ : Kap} {fr : List (Nat × Value)} {cs : List HProp}
variable {dst : Option Nat} {ty : TypeId} {pos : String} {af : Array Edge} {g : Option (Nat × Bool)}

theorem OpQ.move {x : Operand} {v : Value} (h : ev fr x = some v) : OpQ P n ⟨dst, .move x, ty, pos, af, g⟩ fr v := by
  intro a w hf
  simp only [execOp, hf.eval h]; rfl
theorem OpQ.assign {x : Operand} {v : Value} (h : ev fr x = some v) : OpQ P n ⟨dst, .assign x, ty, pos, af, g⟩ fr v := by
  intro a w hf
  simp only [execOp, hf.eval h]; rfl
theorem OpQ.nilCheck {x : Operand} {p : Addr} (h : ev fr x = some (.pointer (some p))) : OpQ P n ⟨dst, .nilCheck x, ty, pos, af, g⟩ fr (.pointer (some p)) := by
  intro a w hf
  simp only [execOp, hf.eval h]; rfl
theorem OpQ.fieldAddr {S : TypeId} {f off b o : Nat} {x : Operand} (h : ev fr x = some (.pointer (some ⟨b, o, none⟩))) [hf : Fd P S f off] :
    OpQ P n ⟨dst, .fieldAddr S x f, ty, pos, af, g⟩ fr (.pointer (some ⟨b, o + off, none⟩)) := by
  intro a w ha
  simp only [execOp, ha.eval h, Sem.run_bind, hf.run, Result.andThen_ok]; rfl
theorem OpQ.field {S : TypeId} {f off m : Nat} {agg : Bool} {x : Operand} {l : List Value} {v : Value} (h : ev fr x = some (.agg l.toArray)) [hf : Fv P S f agg off m] (hv : getV agg l off m = some v) :
    OpQ P n ⟨dst, .field S x f, ty, pos, af, g⟩ fr v := by
  intro a w ha
  simp only [execOp, ha.eval h, Sem.run_bind, hf.run]
  cases agg with
  | true =>
    simp only [getV, cond_true] at hv
    cases hg : getN l off m with
    | none => rw [hg] at hv; cases hv
    | some r =>
      rw [hg] at hv; simp at hv; subst hv
      obtain ⟨e, _⟩ := getN_eq l off m r hg
      simp only [if_true, Result.andThen_ok]
      have : l.toArray.extract off (off + m) = r.toArray := by
        apply Array.ext'; simp [e, List.take_drop, Nat.add_sub_cancel_left]
      rw [this]; rfl
  | false =>
    simp only [getV, cond_false, get1_eq] at hv
    simp [hv]
theorem OpQ.pickT {c x y : Operand} {v : Value} (h : ev fr c = some (.bool true)) (h1 : ev fr x = some v) : OpQ P n ⟨dst, .pick c x y, ty, pos, af, g⟩ fr v := by
  intro a w hf
  simp only [execOp, hf.eval h, hf.eval h1, asBool]; rfl
theorem OpQ.pickF {c x y : Operand} {v : Value} (h : ev fr c = some (.bool false)) (h1 : ev fr y = some v) : OpQ P n ⟨dst, .pick c x y, ty, pos, af, g⟩ fr v := by
  intro a w hf
  simp only [execOp, hf.eval h, hf.eval h1, asBool]; rfl
theorem OpQ.extract {x : Operand} {i : Nat} {l : List Value} {v : Value} (h : ev fr x = some (.tuple l.toArray)) (hv : get1 l i = some v) : OpQ P n ⟨dst, .extract x i, ty, pos, af, g⟩ fr v := by
  intro a w hf
  rw [get1_eq] at hv
  simp [execOp, hf.eval h, Instr.extract, hv]
theorem OpQ.not {x : Operand} {b : Bool} {T : TypeId} (h : ev fr x = some (.bool b)) : OpQ P n ⟨dst, .unOp .not T x, ty, pos, af, g⟩ fr (.bool (!b)) := by
  intro a w hf
  simp only [execOp, hf.eval h]; rfl
theorem OpQ.neg {x : Operand} {k : IntKind} {z : Int} {T : TypeId} (h : ev fr x = some (.int k z)) : OpQ P n ⟨dst, .unOp .neg T x, ty, pos, af, g⟩ fr (.int k (k.wrap (0 - z))) := by
  intro a w hf
  simp only [execOp, hf.eval h]; rfl

theorem OpL.load {T : TypeId} {x : Operand} {b o m : Nat} {agg : Bool} {l : List Value} {v : Value} (h : ev fr x = some (.pointer (some ⟨b, o, none⟩))) [ht : Ty P T agg m]
    (hm : Nat.blt 0 m = true) (hv : getV agg l o m = some v) : OpL P n ⟨dst, .load T x, ty, pos, af, g⟩ fr b l v := by
  have hm' : 0 < m := Nat.blt_eq.mp hm
  cases agg with
  | true =>
    simp only [getV, cond_true] at hv
    cases hg : getN l o m with
    | none => rw [hg] at hv; cases hv
    | some r =>
      rw [hg] at hv; simp at hv; subst hv
      obtain ⟨e, hl⟩ := getN_eq l o m r hg
      refine ⟨fun e => by subst e; simp at hl; omega, fun a w T' sp fz ha hb => ?_⟩
      have hr : (loadCells ⟨b, o, none⟩ m).run P w = .ok r.toArray w := by
        have hlen : r.length = m := by rw [e]; simp; omega
        have := run_loadCells (P := P) (w := w) ⟨b, o, none⟩ m (fun j => r.getD j undef) (fun j hj => by
          have hadd : (⟨b, o, none⟩ : Addr).add j = ⟨b, o + j, none⟩ := by unfold Addr.add; split <;> simp_all
          rw [hadd]
          simp only [World.cell?, hb]
          have : (l ++ sp)[o + j]? = some (r.getD j undef) := by
            rw [List.getElem?_append_left (by omega), e]
            simp [List.getD, hj, List.getElem?_drop]
            rw [List.getElem?_eq_getElem (by omega)]; simp
          simpa using this)
        rw [this]
        congr 1
        apply Array.ext'
        apply List.ext_getElem?
        intro j
        simp
        by_cases hj : j < m
        · simp [hj, List.getElem?_eq_getElem (show j < r.length by omega)]
        · rw [List.getElem?_eq_none (by simp; omega), List.getElem?_eq_none (by omega)]; rfl
      simp only [execOp, ha.eval h, Instr.loadAt, Instr.sureAddr, loadVar, Sem.run_bind, Result.andThen_ok, Sem.run_pure, ht.agg, ht.size, if_true, hr]
  | false =>
    simp only [getV, cond_false, get1_eq] at hv
    have hlt : o < l.length := by
      rcases Nat.lt_or_ge o l.length with h' | h'
      · exact h'
      · rw [List.getElem?_eq_none h'] at hv; cases hv
    refine ⟨fun e => by subst e; simp at hlt, fun a w T' sp fz ha hb => ?_⟩
    have hc : w.cell? ⟨b, o, none⟩ = some v := by
      simp only [World.cell?, hb]
      simp [List.getElem?_append_left hlt, hv]
    have hl : (Go.load ⟨b, o, none⟩).run P w = .ok v w := by simp only [Go.load, Sem.run, hc]
    simp only [execOp, ha.eval h, Instr.loadAt, Instr.sureAddr, loadVar, Sem.run_bind, Result.andThen_ok, Sem.run_pure, ht.agg, hl, if_false, Bool.false_eq_true]
end
end Go.Proofs.YtpcechnalfaajaaDoor

/- Stores, new memory, numbers, slices, calls. -/
namespace Go.Proofs.YtpcechnalfaajaaDoor
open Go

section
variable {P : Program} {n : Nd} {κ : Kap} {fr : List (Nat × Value)} {cs : List HProp}
variable {dst : Option Nat} {ty : TypeId} {pos : String} {af : Array Edge} {g : Option (Nat × Bool)}

theorem vc_cells (v : Value) : v.cells = (vc v).toArray := by cases v <;> rfl

theorem setRow_putRow (w : World) (b : Nat) (l l' : List Value) (T : TypeId) (h : w.heap[b]? = some (.cells l.toArray T (0, 0))) :
    w.setRow b l'.toArray = putRow w b (.cells l'.toArray T (0, 0)) := by
  simp only [World.setRow, putRow]
  congr 1
  apply Array.ext_getElem?
  intro i
  rw [Array.getElem?_modify]
  by_cases k : b = i
  · subst k
    have hlt : b < w.heap.size := by
      rcases Nat.lt_or_ge b w.heap.size with h' | h'
      · exact h'
      · rw [Array.getElem?_eq_none h'] at h; cases h
    rw [if_pos rfl, h, Array.getElem?_setIfInBounds]; simp [hlt]
  · rw [if_neg k, Array.getElem?_setIfInBounds_ne k]

/-- A store, into a part of a row (of as many cells as the value has). -/
theorem OpN.store {T : TypeId} {x y : Operand} {b o m : Nat} {agg : Bool} {l l' : List Value} {v : Value} {F : List Value → List HProp}
    (h : ev fr x = some (.pointer (some ⟨b, o, none⟩))) (hy : ev fr y = some v) [hw : Wr b cs l F] [ht : Ty P T agg m]
    (hm : (vc v).length = m ∧ Nat.blt 0 m = true) (ho : one (vc v) = true) (hl : putN l o (vc v) = some l') :
    OpN P n κ ⟨dst, .store T x y, ty, pos, af, g⟩ fr cs (fun u cs' => u = undef ∧ cs' = F l') := by
  intro a w next Q ha hs hn
  have hm' : 0 < m := Nat.blt_eq.mp hm.2
  obtain ⟨e, hle⟩ := putN_eq (vc v) l o l' hl
  have hvne : vc v ≠ [] := fun k => by rw [k] at hm; simp at hm; omega
  have hle := hle hvne
  have hne : l ≠ [] := fun k => by subst k; simp at hle; exact hvne hle.2
  obtain ⟨Fr, hF⟩ := hw.out hne
  obtain ⟨g0, s0, d0, hg⟩ := hs.ex
  obtain ⟨T', sp, k1, k2⟩ := hF κ g0 hg
  have hs1 : Sat κ w (pts b (T', l ++ sp) :: Fr) := ⟨hs.os, hs.tape, hs.out, hs.ro, g0, s0, d0, k1⟩
  have hb := hs1.pts_heap
  have hst := run_storeCells_at (P := P) b o T' (vc v) 0 (l ++ sp).toArray w hb (by simp; omega) (one_spec ho)
  have hlist : (l ++ sp).take (o + 0) ++ vc v ++ (l ++ sp).drop (o + 0 + (vc v).length) = l' ++ sp := by
    rw [e, Nat.add_zero, List.take_append_of_le_length (by omega), List.drop_append_of_le_length (by omega)]
    simp
  have hstv : (Instr.storeAt T (.pointer (some ⟨b, o, none⟩)) v).run P w = .ok () (putRow w b (.cells (l' ++ sp).toArray T' (0, 0))) := by
    simp only [Instr.storeAt, Instr.sureAddr, storeVar, Sem.run_bind, Sem.run_pure, Result.andThen_ok, vc_cells, ht.size]
    rw [if_neg (by simp [hm.1])]
    show (storeCells ⟨b, o, none⟩ (vc v).toArray.toList 0).run P w = _
    simp only at hst ⊢
    rw [hst, hlist]
    rw [setRow_putRow w b (l ++ sp) (l' ++ sp) T' hb]
  simp only [Oper.wpY, execOp, ha.eval h, ha.eval hy, Sem.run_bind, hstv, Result.andThen_ok, Sem.run_pure, Oper.upY, Oper.upon]
  refine hn undef (F l') _ ⟨rfl, rfl⟩ ?_
  have hs2 := hs1.pts_put (y := (T', l' ++ sp))
  exact hs2.imp fun g' hg' => k2 l' (by rw [e]; simp; omega) κ g' hg'

theorem OpN.alloc {T : TypeId} {z : List Value} [hz : Zr P T z] :
    OpN P n κ ⟨dst, .alloc T, ty, pos, af, g⟩ fr cs (fun v cs' => ∃ b, v = .pointer (some ⟨b, 0, none⟩) ∧ cs' = pts b (T, z) :: cs) := by
  intro a w next Q ha hs hn
  obtain ⟨v, hv, hc⟩ := hz.run w
  simp only [Oper.wpY, execOp, Instr.alloc, Sem.run_bind, hv, Result.andThen_ok, newVar, newRow, newObj, Sem.run, hc, Sem.run_pure]
  exact hn _ _ _ ⟨_, rfl, rfl⟩ (hs.pts_new (T, z))

theorem OpN.box {T : TypeId} {x : Operand} {v : Value} (hx : ev fr x = some v) :
    OpN P n κ ⟨dst, .box T x, ty, pos, af, g⟩ fr cs (fun u cs' => ∃ b, u = .pointer (some ⟨b, 0, none⟩) ∧ cs' = pts b (T, vc v) :: cs) := by
  intro a w next Q ha hs hn
  simp only [Oper.wpY, execOp, Instr.box, ha.eval hx, Sem.run_bind, Result.andThen_ok, newVar, newRow, newObj, Sem.run, vc_cells, Sem.run_pure]
  exact hn _ _ _ ⟨_, rfl, rfl⟩ (hs.pts_new (T, vc v))

/-- A function with a body. -/
class Cal (P : Program) (f : FuncId) : Prop where
  get : ∃ fn, P.funcs[f]? = some fn ∧ fn.body.isNone = false ∧ (fn.name == "runtime.NumGoroutine") = false

def evs (fr : List (Nat × Value)) : List Operand → Option (List Value)
  | [] => some []
  | x :: t => match ev fr x, evs fr t with
    | some v, some r => some (v :: r)
    | _, _ => none
theorem evs_map {a : Act} (ha : Fr n a fr) : ∀ {xs : List Operand} {vs : List Value}, evs fr xs = some vs → xs.map a.eval = vs := by
  intro xs
  induction xs with
  | nil => intro vs h; simp [evs] at h; simp [← h]
  | cons x t ih =>
    intro vs h
    simp only [evs] at h
    cases h1 : ev fr x with
    | none => rw [h1] at h; simp at h
    | some v =>
      cases h2 : evs fr t with
      | none => rw [h1, h2] at h; simp at h
      | some r => rw [h1, h2] at h; simp at h; subst h; simp [ha.eval h1, ih h2]

theorem run_enter {f : FuncId} [hc : Cal P f] {args : Array Value} {w : World} : (callFunc f args).run P w = .ok (.enter f args) w := by
  obtain ⟨fn, hfn, hb, hnm⟩ := hc.get
  have hnm' : ¬ (fn.name == "runtime.NumGoroutine") = true := by rw [hnm]; simp
  have hb' : ¬ fn.body.isNone = true := by rw [hb]; simp
  simp only [callFunc, program, Sem.run_bind, Sem.run, Result.andThen_ok, hfn, if_neg hnm', if_neg hb', Sem.run_pure]

/-- A call, by its contract. -/
theorem OpN.call {f : FuncId} {xs : List Operand} {ts : Array TypeId} {vs : List Value} {K : Value → List HProp → Prop} [hc : Cal P f]
    (hx : evs fr xs = some vs)
    (h : ∀ w, Sat κ w cs → Calls P f vs.toArray w fun e w' => ∃ v cs', e = .returned v ∧ K v cs' ∧ Sat κ w' cs') :
    OpN P n κ ⟨dst, .call ⟨.value (.func f), xs.toArray, ts⟩, ty, pos, af, g⟩ fr cs K := by
  intro a w next Q ha hs hn
  have hm := evs_map ha hx
  have hrun : (execOp a.eval ⟨dst, .call ⟨.value (.func f), xs.toArray, ts⟩, ty, pos, af, g⟩).run P w = .ok (.enter f vs.toArray) w := by
    simp only [execOp, resolve, Act.eval, Deferred.ofValue, Sem.run_bind, Sem.run_pure, Result.andThen_ok, invoke]
    have e : (#[] ++ xs.toArray.map a.eval ++ #[] : Array Value) = vs.toArray := by simp [hm]
    have e' : ((#[] : Array Value) ++ xs.toArray.map (fun x => a.eval x) ++ #[]) = vs.toArray := e
    rw [e', run_enter]
  simp only [Oper.wpY, hrun, Oper.upY, Oper.upon]
  refine (h w hs).mono fun e w' ⟨v, cs', he, hK, hs'⟩ => ?_
  subst he
  exact hn v cs' w' hK hs'

/-- A call of a function's value. -/
theorem OpN.callV {f : FuncId} {c : Operand} {fst cap : Array Value} {xs : List Operand} {ts : Array TypeId} {vs : List Value} {K : Value → List HProp → Prop} [hc : Cal P f]
    (hf : ev fr c = some (.func (.func f) fst cap)) (hx : evs fr xs = some vs)
    (h : ∀ w, Sat κ w cs → Calls P f (fst ++ vs.toArray ++ cap) w fun e w' => ∃ v cs', e = .returned v ∧ K v cs' ∧ Sat κ w' cs') :
    OpN P n κ ⟨dst, .call ⟨.value c, xs.toArray, ts⟩, ty, pos, af, g⟩ fr cs K := by
  intro a w next Q ha hs hn
  have hm := evs_map ha hx
  have hrun : (execOp a.eval ⟨dst, .call ⟨.value c, xs.toArray, ts⟩, ty, pos, af, g⟩).run P w = .ok (.enter f (fst ++ vs.toArray ++ cap)) w := by
    simp only [execOp, resolve, ha.eval hf, Deferred.ofValue, Sem.run_bind, Sem.run_pure, Result.andThen_ok, invoke]
    have e : (fst ++ xs.toArray.map a.eval ++ cap : Array Value) = fst ++ vs.toArray ++ cap := by simp [hm]
    have e' : (fst ++ xs.toArray.map (fun x => a.eval x) ++ cap) = fst ++ vs.toArray ++ cap := e
    rw [e', run_enter]
  simp only [Oper.wpY, hrun, Oper.upY, Oper.upon]
  refine (h w hs).mono fun e w' ⟨v, cs', he, hK, hs'⟩ => ?_
  subst he
  exact hn v cs' w' hK hs'

/- Numbers. -/
section
variable {T U : TypeId} {x y : Operand} {k j : IntKind} {a b : Int}
theorem OpQ.add (hx : ev fr x = some (.int k a)) (hy : ev fr y = some (.int k b)) : OpQ P n ⟨dst, .binOp .add T x y U, ty, pos, af, g⟩ fr (.int k (k.wrap (a + b))) := by
  intro s w hf
  simp [execOp, hf.eval hx, hf.eval hy, eqGuard, binOp, Op.intArith]
theorem OpQ.sub (hx : ev fr x = some (.int k a)) (hy : ev fr y = some (.int k b)) : OpQ P n ⟨dst, .binOp .sub T x y U, ty, pos, af, g⟩ fr (.int k (k.wrap (a - b))) := by
  intro s w hf
  simp [execOp, hf.eval hx, hf.eval hy, eqGuard, binOp, Op.intArith]
theorem OpQ.mul (hx : ev fr x = some (.int k a)) (hy : ev fr y = some (.int k b)) : OpQ P n ⟨dst, .binOp .mul T x y U, ty, pos, af, g⟩ fr (.int k (k.wrap (a * b))) := by
  intro s w hf
  simp [execOp, hf.eval hx, hf.eval hy, eqGuard, binOp, Op.intArith]
theorem OpQ.lss (hx : ev fr x = some (.int k a)) (hy : ev fr y = some (.int k b)) : OpQ P n ⟨dst, .binOp .lss T x y U, ty, pos, af, g⟩ fr (.bool (decide (a < b))) := by
  intro s w hf
  simp [execOp, hf.eval hx, hf.eval hy, eqGuard, binOp, Op.intCmp]
theorem OpQ.leq (hx : ev fr x = some (.int k a)) (hy : ev fr y = some (.int k b)) : OpQ P n ⟨dst, .binOp .leq T x y U, ty, pos, af, g⟩ fr (.bool (decide (a ≤ b))) := by
  intro s w hf
  simp [execOp, hf.eval hx, hf.eval hy, eqGuard, binOp, Op.intCmp]
theorem OpQ.gtr (hx : ev fr x = some (.int k a)) (hy : ev fr y = some (.int k b)) : OpQ P n ⟨dst, .binOp .gtr T x y U, ty, pos, af, g⟩ fr (.bool (decide (b < a))) := by
  intro s w hf
  simp [execOp, hf.eval hx, hf.eval hy, eqGuard, binOp, Op.intCmp]
theorem OpQ.geq (hx : ev fr x = some (.int k a)) (hy : ev fr y = some (.int k b)) : OpQ P n ⟨dst, .binOp .geq T x y U, ty, pos, af, g⟩ fr (.bool (decide (b ≤ a))) := by
  intro s w hf
  simp [execOp, hf.eval hx, hf.eval hy, eqGuard, binOp, Op.intCmp]
theorem OpQ.eql (hx : ev fr x = some (.int k a)) (hy : ev fr y = some (.int k b)) : OpQ P n ⟨dst, .binOp .eql T x y U, ty, pos, af, g⟩ fr (.bool (decide (a = b))) := by
  intro s w hf
  simp [execOp, hf.eval hx, hf.eval hy, eqGuard, binOp, Op.intCmp]
  by_cases h : a = b <;> simp [h]
theorem OpQ.neq (hx : ev fr x = some (.int k a)) (hy : ev fr y = some (.int k b)) : OpQ P n ⟨dst, .binOp .neq T x y U, ty, pos, af, g⟩ fr (.bool (decide (a ≠ b))) := by
  intro s w hf
  simp [execOp, hf.eval hx, hf.eval hy, eqGuard, binOp, Op.intCmp]
  by_cases h : a = b <;> simp [h]
theorem OpQ.and (hx : ev fr x = some (.int k a)) (hy : ev fr y = some (.int k b)) :
    OpQ P n ⟨dst, .binOp .and T x y U, ty, pos, af, g⟩ fr (.int k (k.wrap ((BitVec.ofInt k.bits a &&& BitVec.ofInt k.bits b).toNat))) := by
  intro s w hf
  simp [execOp, hf.eval hx, hf.eval hy, eqGuard, binOp, Op.intBits]
theorem OpQ.or (hx : ev fr x = some (.int k a)) (hy : ev fr y = some (.int k b)) :
    OpQ P n ⟨dst, .binOp .or T x y U, ty, pos, af, g⟩ fr (.int k (k.wrap ((BitVec.ofInt k.bits a ||| BitVec.ofInt k.bits b).toNat))) := by
  intro s w hf
  simp [execOp, hf.eval hx, hf.eval hy, eqGuard, binOp, Op.intBits]
theorem OpQ.xor (hx : ev fr x = some (.int k a)) (hy : ev fr y = some (.int k b)) :
    OpQ P n ⟨dst, .binOp .xor T x y U, ty, pos, af, g⟩ fr (.int k (k.wrap ((BitVec.ofInt k.bits a ^^^ BitVec.ofInt k.bits b).toNat))) := by
  intro s w hf
  simp [execOp, hf.eval hx, hf.eval hy, eqGuard, binOp, Op.intBits]
theorem OpQ.andNot (hx : ev fr x = some (.int k a)) (hy : ev fr y = some (.int k b)) :
    OpQ P n ⟨dst, .binOp .andNot T x y U, ty, pos, af, g⟩ fr (.int k (k.wrap ((BitVec.ofInt k.bits a &&& ~~~ BitVec.ofInt k.bits b).toNat))) := by
  intro s w hf
  simp [execOp, hf.eval hx, hf.eval hy, eqGuard, binOp, Op.intBits]
theorem OpQ.shl (hx : ev fr x = some (.int k a)) (hy : ev fr y = some (.int j b)) (hb : 0 ≤ b) :
    OpQ P n ⟨dst, .binOp .shl T x y U, ty, pos, af, g⟩ fr (.int k (k.wrap (a * 2 ^ (min b.toNat k.bits)))) := by
  intro s w hf
  simp [execOp, hf.eval hx, hf.eval hy, eqGuard, binOp, Op.shift, Int.not_lt.2 hb]
theorem OpQ.shr (hx : ev fr x = some (.int k a)) (hy : ev fr y = some (.int j b)) (hb : 0 ≤ b) :
    OpQ P n ⟨dst, .binOp .shr T x y U, ty, pos, af, g⟩ fr (.int k (a.fdiv (2 ^ (min b.toNat k.bits)))) := by
  intro s w hf
  simp [execOp, hf.eval hx, hf.eval hy, eqGuard, binOp, Op.shift, Int.not_lt.2 hb]
theorem OpQ.quo (hx : ev fr x = some (.int k a)) (hy : ev fr y = some (.int k b)) (hb : b ≠ 0) : OpQ P n ⟨dst, .binOp .quo T x y U, ty, pos, af, g⟩ fr (.int k (k.wrap (a.tdiv b))) := by
  intro s w hf
  simp [execOp, hf.eval hx, hf.eval hy, eqGuard, binOp, Op.intDiv, hb]
theorem OpQ.rem (hx : ev fr x = some (.int k a)) (hy : ev fr y = some (.int k b)) (hb : b ≠ 0) : OpQ P n ⟨dst, .binOp .rem T x y U, ty, pos, af, g⟩ fr (.int k (a.tmod b)) := by
  intro s w hf
  simp [execOp, hf.eval hx, hf.eval hy, eqGuard, binOp, Op.intDiv, hb]
end
/-- Between integer types. -/
class Cv (P : Program) (S D : TypeId) (k : outParam IntKind) : Prop where
  run : ∀ j a w, (convert S D (.int j a)).run P w = .ok (.int k (k.wrap a)) w
theorem OpQ.conv {S D : TypeId} {k j : IntKind} {x : Operand} {a : Int} [hc : Cv P S D k] (hx : ev fr x = some (.int j a)) : OpQ P n ⟨dst, .convert S D x, ty, pos, af, g⟩ fr (.int k (k.wrap a)) := by
  intro s w hf
  simp only [execOp, hf.eval hx, Sem.run_bind, hc.run, Result.andThen_ok]; rfl

/- Slices. -/
theorem OpQ.len {T : TypeId} {E : TypeId} {m by_ : Nat} {x : Operand} {ts : Array TypeId} {p : Option Addr} {len cap : Nat} (hx : ev fr x = some (.slice p len cap)) (ht : ts[0]? = some T) [hs : Sl P T E m by_] :
    OpQ P n ⟨dst, .call ⟨.builtin .len, #[x], ts⟩, ty, pos, af, g⟩ fr (.int .i64 len) := by
  intro s w hf
  simp [execOp, resolve, hf.eval hx, invoke, builtin, Builtin.len_, ht, hs.und, goInt]
theorem OpQ.idx {T E : TypeId} {m by_ : Nat} {x i : Operand} {b o len cap : Nat} {k : IntKind} {z : Int} (hx : ev fr x = some (.slice (some ⟨b, o, none⟩) len cap)) (hi : ev fr i = some (.int k z))
    [hs : Sl P T E m by_] (hz : 0 ≤ z ∧ z < len) : OpQ P n ⟨dst, .indexAddr T x i, ty, pos, af, g⟩ fr (.pointer (some ⟨b, o + z.toNat * m, none⟩)) := by
  intro s w hf
  simp only [execOp, hf.eval hx, hf.eval hi, Instr.indexAt, asIntOf, Sem.run_bind, Sem.run_pure, Result.andThen_ok, hs.und, if_pos hz, hs.size]
  congr 4
  unfold Addr.add; split <;> simp_all
/-- An array's element. -/
class Ar (P : Program) (T : TypeId) (len : outParam Nat) (E : outParam TypeId) (m : outParam Nat) : Prop where
  und : ∀ w, (underlying T).run P w = .ok (.array len E) w
  size : ∀ w, (sizeOf E).run P w = .ok m w
theorem OpQ.idxA {T E : TypeId} {m len : Nat} {x i : Operand} {b o : Nat} {k : IntKind} {z : Int} (hx : ev fr x = some (.pointer (some ⟨b, o, none⟩))) (hi : ev fr i = some (.int k z))
    [hs : Ar P T len E m] (hz : 0 ≤ z ∧ z < len) : OpQ P n ⟨dst, .indexAddr T x i, ty, pos, af, g⟩ fr (.pointer (some ⟨b, o + z.toNat * m, none⟩)) := by
  intro s w hf
  simp only [execOp, hf.eval hx, hf.eval hi, Instr.indexAt, Instr.sureAddr, asIntOf, Sem.run_bind, Sem.run_pure, Result.andThen_ok, hs.und, if_pos hz, hs.size]
  congr 4
  unfold Addr.add; split <;> simp_all

theorem bound_run {x : Int} {y : Nat} {k : IntKind} {c : BoundsCode} {w : World} (h : 0 ≤ x ∧ x ≤ y) : (Instr.sliceBound (.int k x) y c).run P w = .ok x.toNat w := by
  simp only [Instr.sliceBound, asIntOf, Sem.run_bind, Sem.run_pure, Result.andThen_ok, if_pos h]
/-- A bound that is told, or left out. -/
def Bnd (fr : List (Nat × Value)) (dflt : Nat) : Option Operand → Nat → Prop
  | none, v => v = dflt
  | some y, v => ∃ k z, ev fr y = some (.int k z) ∧ 0 ≤ z ∧ z.toNat = v
/-- x[l:h] of a slice; what is left out is 0 and the length. -/
theorem OpQ.slc {T E : TypeId} {m by_ : Nat} {x : Operand} {lo hi : Option Operand} {p : Option Addr} {len cap : Nat} {l h : Nat} (hx : ev fr x = some (.slice p len cap)) [hs : Sl P T E m by_]
    (hl : Bnd fr 0 lo l)
    (hh : Bnd fr len hi h) (h1 : l ≤ h) (h2 : h ≤ cap) :
    OpQ P n ⟨dst, .slice T x lo hi none, ty, pos, af, g⟩ fr (.slice (if cap = l then p else p.map (·.add (l * m))) (h - l) (cap - l)) := by
  intro s w hf
  have e : (Instr.sliceBounds true len cap (lo.map s.eval) (hi.map s.eval) none).run P w = .ok (l, h, cap) w := by
    cases lo with
    | none => cases hi with
      | none => subst hl hh; simp [Instr.sliceBounds]
      | some y2 => obtain ⟨k2, z2, e2, g2, rfl⟩ := hh; subst hl
                   simp only [Instr.sliceBounds, Option.map, hf.eval e2, Sem.run_bind, Sem.run_pure, Result.andThen_ok]
                   rw [bound_run (by omega)]; simp
    | some y1 => obtain ⟨k1, z1, e1, g1, rfl⟩ := hl
                 cases hi with
      | none => subst hh; simp only [Instr.sliceBounds, Option.map, hf.eval e1, Sem.run_bind, Sem.run_pure, Result.andThen_ok]
                rw [bound_run (by omega)]; simp
      | some y2 => obtain ⟨k2, z2, e2, g2, rfl⟩ := hh
                   simp only [Instr.sliceBounds, Option.map, hf.eval e1, hf.eval e2, Sem.run_bind, Sem.run_pure, Result.andThen_ok]
                   rw [bound_run (by omega)]; simp only [Result.andThen_ok]; rw [bound_run (by omega)]; simp
  simp only [execOp, Instr.sliceAt, Instr.slice, hf.eval hx, Sem.run_bind, hs.und, Result.andThen_ok, Option.map_none, e, hs.size, Sem.run_pure]
/-- x[:h:c] -/
theorem OpQ.slc3 {T E : TypeId} {m by_ : Nat} {x y u : Operand} {p : Option Addr} {len cap : Nat} {k j : IntKind} {h c : Int} (hx : ev fr x = some (.slice p len cap)) [hs : Sl P T E m by_]
    (hh : ev fr y = some (.int k h)) (hc : ev fr u = some (.int j c)) (h1 : 0 ≤ h ∧ h ≤ c) (h2 : c ≤ cap) :
    OpQ P n ⟨dst, .slice T x none (some y) (some u), ty, pos, af, g⟩ fr (.slice p h.toNat c.toNat) := by
  intro s w hf
  have e : (Instr.sliceBounds true len cap none (some (.int k h)) (some (.int j c))).run P w = .ok (0, h.toNat, c.toNat) w := by
    simp only [Instr.sliceBounds, Sem.run_bind, Sem.run_pure, Result.andThen_ok]
    rw [bound_run (by omega)]; simp only [Result.andThen_ok]
    rw [bound_run (by omega)]; simp
  simp only [execOp, Instr.sliceAt, Instr.slice, hf.eval hx, hf.eval hh, hf.eval hc, Sem.run_bind, hs.und, Result.andThen_ok, Option.map_none, Option.map_some, e, hs.size, Sem.run_pure]
  congr 3
  cases p with
  | none => simp
  | some a => simp [Addr.add]
end
end Go.Proofs.YtpcechnalfaajaaDoor

/- The steps as they are used: what each asks is looked up by itself. -/
namespace Go.Proofs.YtpcechnalfaajaaDoor
open Go

section
variable {P : Program} {ops : Array Oper} {Q : Exit → Act → World → Prop} {n : Nd} {κ : Kap} {rest : List Oper} {fr : List (Nat × Value)} {cs : List HProp}
variable {d : Nat} {ty : TypeId} {pos : String} {af : Array Edge} {g : Option (Nat × Bool)}
variable {T U E S : TypeId} {x y z u : Operand} {v : Value} {a b : Int} {k j : IntKind}

theorem St.mv (k : St P ops Q n κ rest ((d, v) :: fr) cs) (h : ev fr x = some v := by rfl) (hd : Nat.blt d n.n = true := by rfl) (hw : wantedF ops fr g true = true := by rfl) :
    St P ops Q n κ (⟨some d, .move x, ty, pos, af, g⟩ :: rest) fr cs := .q (.move h) k hd hw
theorem St.as (k : St P ops Q n κ rest ((d, v) :: fr) cs) (h : ev fr x = some v := by rfl) (hd : Nat.blt d n.n = true := by rfl) (hw : wantedF ops fr g true = true := by rfl) :
    St P ops Q n κ (⟨some d, .assign x, ty, pos, af, g⟩ :: rest) fr cs := .q (.assign h) k hd hw
theorem St.nc {p : Addr} (k : St P ops Q n κ rest ((d, .pointer (some p)) :: fr) cs) (h : ev fr x = some (.pointer (some p)) := by rfl) (hd : Nat.blt d n.n = true := by rfl) (hw : wantedF ops fr g true = true := by rfl) :
    St P ops Q n κ (⟨some d, .nilCheck x, ty, pos, af, g⟩ :: rest) fr cs := .q (.nilCheck h) k hd hw
theorem St.fa {f off b o : Nat} (k : St P ops Q n κ rest ((d, .pointer (some ⟨b, o + off, none⟩)) :: fr) cs)
    (h : ev fr x = some (.pointer (some ⟨b, o, none⟩)) ∧ Fd P S f off := by refine ⟨rfl, ?_⟩; infer_instance) (hd : Nat.blt d n.n = true := by rfl) (hw : wantedF ops fr g true = true := by rfl) :
    St P ops Q n κ (⟨some d, .fieldAddr S x f, ty, pos, af, g⟩ :: rest) fr cs := .q (have := h.2; .fieldAddr h.1) k hd hw
theorem St.fv {f off m : Nat} {agg : Bool} {l : List Value} (k : St P ops Q n κ rest ((d, v) :: fr) cs)
    (h : ev fr x = some (.agg l.toArray) ∧ Fv P S f agg off m ∧ getV agg l off m = some v := by refine ⟨rfl, ?_, ?_⟩; infer_instance; rfl) (hd : Nat.blt d n.n = true := by rfl) (hw : wantedF ops fr g true = true := by rfl) :
    St P ops Q n κ (⟨some d, .field S x f, ty, pos, af, g⟩ :: rest) fr cs := .q (have := h.2.1; .field h.1 h.2.2) k hd hw
theorem St.pt (k : St P ops Q n κ rest ((d, v) :: fr) cs) (h : ev fr x = some (.bool true) ∧ ev fr y = some v := by exact ⟨rfl, rfl⟩) (hd : Nat.blt d n.n = true := by rfl) (hw : wantedF ops fr g true = true := by rfl) :
    St P ops Q n κ (⟨some d, .pick x y z, ty, pos, af, g⟩ :: rest) fr cs := .q (.pickT h.1 h.2) k hd hw
theorem St.pf (k : St P ops Q n κ rest ((d, v) :: fr) cs) (h : ev fr x = some (.bool false) ∧ ev fr z = some v := by exact ⟨rfl, rfl⟩) (hd : Nat.blt d n.n = true := by rfl) (hw : wantedF ops fr g true = true := by rfl) :
    St P ops Q n κ (⟨some d, .pick x y z, ty, pos, af, g⟩ :: rest) fr cs := .q (.pickF h.1 h.2) k hd hw
theorem St.ex {i : Nat} {l : List Value} (k : St P ops Q n κ rest ((d, v) :: fr) cs) (h : ev fr x = some (.tuple l.toArray) ∧ get1 l i = some v := by exact ⟨rfl, rfl⟩) (hd : Nat.blt d n.n = true := by rfl) (hw : wantedF ops fr g true = true := by rfl) :
    St P ops Q n κ (⟨some d, .extract x i, ty, pos, af, g⟩ :: rest) fr cs := .q (.extract h.1 h.2) k hd hw
theorem St.nt {b : Bool} (k : St P ops Q n κ rest ((d, .bool (!b)) :: fr) cs) (h : ev fr x = some (.bool b) := by rfl) (hd : Nat.blt d n.n = true := by rfl) (hw : wantedF ops fr g true = true := by rfl) :
    St P ops Q n κ (⟨some d, .unOp .not T x, ty, pos, af, g⟩ :: rest) fr cs := .q (.not h) k hd hw
theorem St.ld {b o m : Nat} {agg : Bool} {l : List Value} (k : St P ops Q n κ rest ((d, v) :: fr) cs)
    (h : ev fr x = some (.pointer (some ⟨b, o, none⟩)) ∧ Rd b cs l ∧ Ty P T agg m ∧ Nat.blt 0 m = true ∧ getV agg l o m = some v := by refine ⟨rfl, ?_, ?_, ?_, ?_⟩; infer_instance; infer_instance; rfl; rfl)
    (hd : Nat.blt d n.n = true := by rfl) (hw : wantedF ops fr g true = true := by rfl) :
    St P ops Q n κ (⟨some d, .load T x, ty, pos, af, g⟩ :: rest) fr cs := have := h.2.1; have := h.2.2.1; .l (.load h.1 h.2.2.2.1 h.2.2.2.2) k hd hw
/-- A load of a whole row: its value is not taken apart. -/
theorem St.ldw {b m : Nat} {l : List Value} (k : St P ops Q n κ rest ((d, .agg l.toArray) :: fr) cs)
    (h : ev fr x = some (.pointer (some ⟨b, 0, none⟩)) ∧ Rd b cs l ∧ Ty P T true m ∧ Nat.blt 0 m = true ∧ l.length = m := by refine ⟨rfl, ?_, ?_, ?_, ?_⟩; infer_instance; infer_instance; rfl; (first | rfl | simp))
    (hd : Nat.blt d n.n = true := by rfl) (hw : wantedF ops fr g true = true := by rfl) :
    St P ops Q n κ (⟨some d, .load T x, ty, pos, af, g⟩ :: rest) fr cs :=
  have := h.2.1; have := h.2.2.1
  .l (.load h.1 h.2.2.2.1 (by
    have e : ∀ (l : List Value), takeF l.length l = some l := by
      intro l; induction l with
      | nil => rfl
      | cons x t ih => simp [takeF, ih]
    simp [getV, getN, ← h.2.2.2.2, e])) k hd hw
theorem St.st {b o m : Nat} {agg : Bool} {l l' : List Value} {F : List Value → List HProp} (k : St P ops Q n κ rest fr (F l'))
    (h : ev fr x = some (.pointer (some ⟨b, o, none⟩)) ∧ ev fr y = some v ∧ Wr b cs l F ∧ Ty P T agg m ∧ ((vc v).length = m ∧ Nat.blt 0 m = true) ∧ one (vc v) = true ∧ putN l o (vc v) = some l' := by
      refine ⟨rfl, rfl, ?_, ?_, ⟨?_, ?_⟩, ?_, ?_⟩; infer_instance; infer_instance; (first | rfl | simp [vc]); rfl; (first | rfl | simp [vc]); rfl)
    (hw : wantedF ops fr g true = true := by rfl) :
    St P ops Q n κ (⟨none, .store T x y, ty, pos, af, g⟩ :: rest) fr cs :=
  have := h.2.2.1; have := h.2.2.2.1
  .n0 (.store h.1 h.2.1 h.2.2.2.2.1 h.2.2.2.2.2.1 h.2.2.2.2.2.2) (fun _ _ hK => by rw [hK.2]; exact k) hw
theorem putN_all : ∀ (vs l : List Value), l.length = vs.length → putN l 0 vs = some vs := by
  have gen : ∀ (vs pre l : List Value), l.length = vs.length → putN (pre ++ l) pre.length vs = some (pre ++ vs) := by
    intro vs
    induction vs with
    | nil => intro pre l h; have : l = [] := List.eq_nil_of_length_eq_zero (by simpa using h); subst this; simp [putN]
    | cons v vs ih =>
      intro pre l h
      cases l with
      | nil => simp at h
      | cons x t =>
        have hp : ∀ (pre : List Value), put1 (pre ++ x :: t) pre.length v = some (pre ++ v :: t) := by
          intro pre; induction pre with
          | nil => rfl
          | cons y pre ih => simp [put1, ih]
        simp only [putN, hp]
        have := ih (pre ++ [v]) t (by simpa using h)
        simpa using this
  intro vs l h
  simpa using gen vs [] l h
/-- A store that fills the whole row. -/
theorem St.stw {b m : Nat} {agg : Bool} {l : List Value} {F : List Value → List HProp} (k : St P ops Q n κ rest fr (F (vc v)))
    (h : ev fr x = some (.pointer (some ⟨b, 0, none⟩)) ∧ ev fr y = some v ∧ Wr b cs l F ∧ Ty P T agg m ∧ ((vc v).length = m ∧ Nat.blt 0 m = true) ∧ one (vc v) = true ∧ l.length = m := by
      refine ⟨rfl, rfl, ?_, ?_, ⟨?_, ?_⟩, ?_, ?_⟩; infer_instance; infer_instance; (first | rfl | simp [vc]); rfl; (first | rfl | simp [vc]); (first | rfl | simp [vc]))
    (hw : wantedF ops fr g true = true := by rfl) :
    St P ops Q n κ (⟨none, .store T x y, ty, pos, af, g⟩ :: rest) fr cs :=
  have := h.2.2.1; have := h.2.2.2.1
  .n0 (.store h.1 h.2.1 h.2.2.2.2.1 h.2.2.2.2.2.1 (putN_all _ _ (by rw [h.2.2.2.2.2.2, h.2.2.2.2.1.1]))) (fun _ _ hK => by rw [hK.2]; exact k) hw
theorem St.al {zs : List Value} (k : ∀ b, St P ops Q n κ rest ((d, .pointer (some ⟨b, 0, none⟩)) :: fr) (pts b (T, zs) :: cs)) (h : Zr P T zs := by infer_instance)
    (hd : Nat.blt d n.n = true := by rfl) (hw : wantedF ops fr g true = true := by rfl) : St P ops Q n κ (⟨some d, .alloc T, ty, pos, af, g⟩ :: rest) fr cs :=
  .nn .alloc (fun _ _ ⟨b, e, e'⟩ => by rw [e, e']; exact k b) hd hw
theorem St.bx (k : ∀ b, St P ops Q n κ rest ((d, .pointer (some ⟨b, 0, none⟩)) :: fr) (pts b (T, vc v) :: cs)) (h : ev fr x = some v := by rfl)
    (hd : Nat.blt d n.n = true := by rfl) (hw : wantedF ops fr g true = true := by rfl) : St P ops Q n κ (⟨some d, .box T x, ty, pos, af, g⟩ :: rest) fr cs :=
  .nn (.box h) (fun _ _ ⟨b, e, e'⟩ => by rw [e, e']; exact k b) hd hw
/-- A call whose value and memory are known. -/
theorem St.cl {f : FuncId} {xs : List Operand} {ts : Array TypeId} {vs : List Value} {cs' : List HProp} (h : ∀ w, Sat κ w cs → Calls P f vs.toArray w fun e w' => e = .returned v ∧ Sat κ w' cs')
    (k : St P ops Q n κ rest ((d, v) :: fr) cs') (hx : evs fr xs = some vs := by rfl) (hc : Cal P f := by infer_instance)
    (hd : Nat.blt d n.n = true := by rfl) (hw : wantedF ops fr g true = true := by rfl) : St P ops Q n κ (⟨some d, .call ⟨.value (.func f), xs.toArray, ts⟩, ty, pos, af, g⟩ :: rest) fr cs :=
  .nn (K := fun u c => u = v ∧ c = cs') (.call hx fun w hs => (h w hs).mono fun _ _ ⟨e, s⟩ => ⟨v, cs', e, ⟨rfl, rfl⟩, s⟩) (fun _ _ ⟨e, e'⟩ => by rw [e, e']; exact k) hd hw
/-- A call that leaves something open. -/
theorem St.ce {ι : Type} {f : FuncId} {xs : List Operand} {ts : Array TypeId} {vs : List Value} {r : ι → Value} {cs' : ι → List HProp} {p : ι → Prop}
    (h : ∀ w, Sat κ w cs → Calls P f vs.toArray w fun e w' => ∃ i, p i ∧ e = .returned (r i) ∧ Sat κ w' (cs' i))
    (k : ∀ i, p i → St P ops Q n κ rest ((d, r i) :: fr) (cs' i)) (hx : evs fr xs = some vs := by rfl) (hc : Cal P f := by infer_instance)
    (hd : Nat.blt d n.n = true := by rfl) (hw : wantedF ops fr g true = true := by rfl) : St P ops Q n κ (⟨some d, .call ⟨.value (.func f), xs.toArray, ts⟩, ty, pos, af, g⟩ :: rest) fr cs :=
  .nn (K := fun u c => ∃ i, p i ∧ u = r i ∧ c = cs' i) (.call hx fun w hs => (h w hs).mono fun _ _ ⟨i, hp, e, s⟩ => ⟨r i, cs' i, e, ⟨i, hp, rfl, rfl⟩, s⟩) (fun _ _ ⟨i, hp, e, e'⟩ => by rw [e, e']; exact k i hp) hd hw

theorem wrap_in {z : Int} (h : -9223372036854775808 ≤ z ∧ z ≤ 9223372036854775807) : IntKind.i64.wrap z = z := by
  have e1 : (2 : Int) ^ (64 : Nat) = 18446744073709551616 := by decide
  have e2 : (2 : Int) ^ (64 - 1 : Nat) = 9223372036854775808 := by decide
  simp only [IntKind.wrap, IntKind.bits, IntKind.signed, Bool.true_and, e1, e2]
  split
  · rename_i h'
    have := of_decide_eq_true h'
    omega
  · rename_i h'
    have : ¬ (z % 18446744073709551616 ≥ 9223372036854775808) := fun k => h' (decide_eq_true k)
    omega
/-- A sum that stays within 64 bits. -/
theorem St.ad (k : St P ops Q n κ rest ((d, .int .i64 (a + b)) :: fr) cs) (h : ev fr x = some (.int .i64 a) ∧ ev fr y = some (.int .i64 b) := by exact ⟨rfl, rfl⟩)
    (hr : -9223372036854775808 ≤ a + b ∧ a + b ≤ 9223372036854775807 := by omega) (hd : Nat.blt d n.n = true := by rfl) (hw : wantedF ops fr g true = true := by rfl) :
    St P ops Q n κ (⟨some d, .binOp .add T x y U, ty, pos, af, g⟩ :: rest) fr cs := by
  refine .q (.add h.1 h.2) ?_ hd hw; rw [wrap_in hr]; exact k
theorem St.sb (k : St P ops Q n κ rest ((d, .int .i64 (a - b)) :: fr) cs) (h : ev fr x = some (.int .i64 a) ∧ ev fr y = some (.int .i64 b) := by exact ⟨rfl, rfl⟩)
    (hr : -9223372036854775808 ≤ a - b ∧ a - b ≤ 9223372036854775807 := by omega) (hd : Nat.blt d n.n = true := by rfl) (hw : wantedF ops fr g true = true := by rfl) :
    St P ops Q n κ (⟨some d, .binOp .sub T x y U, ty, pos, af, g⟩ :: rest) fr cs := by
  refine .q (.sub h.1 h.2) ?_ hd hw; rw [wrap_in hr]; exact k
theorem St.lt (k' : St P ops Q n κ rest ((d, .bool (decide (a < b))) :: fr) cs) (h : ev fr x = some (.int k a) ∧ ev fr y = some (.int k b) := by exact ⟨rfl, rfl⟩) (hd : Nat.blt d n.n = true := by rfl) (hw : wantedF ops fr g true = true := by rfl) :
    St P ops Q n κ (⟨some d, .binOp .lss T x y U, ty, pos, af, g⟩ :: rest) fr cs := .q (.lss h.1 h.2) k' hd hw
theorem St.le (k' : St P ops Q n κ rest ((d, .bool (decide (a ≤ b))) :: fr) cs) (h : ev fr x = some (.int k a) ∧ ev fr y = some (.int k b) := by exact ⟨rfl, rfl⟩) (hd : Nat.blt d n.n = true := by rfl) (hw : wantedF ops fr g true = true := by rfl) :
    St P ops Q n κ (⟨some d, .binOp .leq T x y U, ty, pos, af, g⟩ :: rest) fr cs := .q (.leq h.1 h.2) k' hd hw
theorem St.gt (k' : St P ops Q n κ rest ((d, .bool (decide (b < a))) :: fr) cs) (h : ev fr x = some (.int k a) ∧ ev fr y = some (.int k b) := by exact ⟨rfl, rfl⟩) (hd : Nat.blt d n.n = true := by rfl) (hw : wantedF ops fr g true = true := by rfl) :
    St P ops Q n κ (⟨some d, .binOp .gtr T x y U, ty, pos, af, g⟩ :: rest) fr cs := .q (.gtr h.1 h.2) k' hd hw
theorem St.ge (k' : St P ops Q n κ rest ((d, .bool (decide (b ≤ a))) :: fr) cs) (h : ev fr x = some (.int k a) ∧ ev fr y = some (.int k b) := by exact ⟨rfl, rfl⟩) (hd : Nat.blt d n.n = true := by rfl) (hw : wantedF ops fr g true = true := by rfl) :
    St P ops Q n κ (⟨some d, .binOp .geq T x y U, ty, pos, af, g⟩ :: rest) fr cs := .q (.geq h.1 h.2) k' hd hw
theorem St.eq (k' : St P ops Q n κ rest ((d, .bool (decide (a = b))) :: fr) cs) (h : ev fr x = some (.int k a) ∧ ev fr y = some (.int k b) := by exact ⟨rfl, rfl⟩) (hd : Nat.blt d n.n = true := by rfl) (hw : wantedF ops fr g true = true := by rfl) :
    St P ops Q n κ (⟨some d, .binOp .eql T x y U, ty, pos, af, g⟩ :: rest) fr cs := .q (.eql h.1 h.2) k' hd hw
theorem St.ne (k' : St P ops Q n κ rest ((d, .bool (decide (a ≠ b))) :: fr) cs) (h : ev fr x = some (.int k a) ∧ ev fr y = some (.int k b) := by exact ⟨rfl, rfl⟩) (hd : Nat.blt d n.n = true := by rfl) (hw : wantedF ops fr g true = true := by rfl) :
    St P ops Q n κ (⟨some d, .binOp .neq T x y U, ty, pos, af, g⟩ :: rest) fr cs := .q (.neq h.1 h.2) k' hd hw
theorem St.ln {m by_ len cap : Nat} {p : Option Addr} (k : St P ops Q n κ rest ((d, .int .i64 len) :: fr) cs)
    (h : ev fr x = some (.slice p len cap) ∧ Sl P T E m by_ := by refine ⟨rfl, ?_⟩; infer_instance) (hd : Nat.blt d n.n = true := by rfl) (hw : wantedF ops fr g true = true := by rfl) :
    St P ops Q n κ (⟨some d, .call ⟨.builtin .len, #[x], #[T]⟩, ty, pos, af, g⟩ :: rest) fr cs := .q (have := h.2; .len (T := T) h.1 rfl) k hd hw
theorem St.ix {m by_ b o len cap : Nat} (k' : St P ops Q n κ rest ((d, .pointer (some ⟨b, o + a.toNat * m, none⟩)) :: fr) cs)
    (h : ev fr x = some (.slice (some ⟨b, o, none⟩) len cap) ∧ ev fr y = some (.int k a) ∧ Sl P T E m by_ := by refine ⟨rfl, rfl, ?_⟩; infer_instance) (hz : 0 ≤ a ∧ a < len := by omega)
    (hd : Nat.blt d n.n = true := by rfl) (hw : wantedF ops fr g true = true := by rfl) :
    St P ops Q n κ (⟨some d, .indexAddr T x y, ty, pos, af, g⟩ :: rest) fr cs := .q (have := h.2.2; .idx h.1 h.2.1 hz) k' hd hw
theorem St.ixa {m b o len : Nat} (k' : St P ops Q n κ rest ((d, .pointer (some ⟨b, o + a.toNat * m, none⟩)) :: fr) cs)
    (h : ev fr x = some (.pointer (some ⟨b, o, none⟩)) ∧ ev fr y = some (.int k a) ∧ Ar P T len E m := by refine ⟨rfl, rfl, ?_⟩; infer_instance) (hz : 0 ≤ a ∧ a < len := by omega)
    (hd : Nat.blt d n.n = true := by rfl) (hw : wantedF ops fr g true = true := by rfl) :
    St P ops Q n κ (⟨some d, .indexAddr T x y, ty, pos, af, g⟩ :: rest) fr cs := .q (have := h.2.2; .idxA h.1 h.2.1 hz) k' hd hw
end

/- The beginning and the end of a call. -/
def enumF : Nat → List Value → List (Nat × Value)
  | _, [] => []
  | i, v :: t => (i, v) :: enumF (i + 1) t
theorem enumF_look : ∀ (l : List Value) (i d : Nat) (v : Value), look (enumF i l) d = some v → i ≤ d ∧ l[d - i]? = some v := by
  intro l
  induction l with
  | nil => intro i d v h; simp [enumF, look] at h
  | cons x t ih =>
    intro i d v h
    simp only [enumF, look] at h
    cases hb : Nat.beq i d with
    | true => have := Nat.eq_of_beq_eq_true hb; subst this; simp at h; simp [h]
    | false =>
      simp only [hb, cond_false] at h
      have hne : i ≠ d := fun k => by subst k; simp [Nat.beq_refl] at hb
      obtain ⟨h1, h2⟩ := ih (i + 1) d v h
      refine ⟨by omega, ?_⟩
      rw [show d - i = (d - (i + 1)) + 1 by omega]
      simpa using h2

/-- What a function's end tells. -/
def RetP (P : Program) (fn : Func) (R : Ending → World → Prop) : Exit → Act → World → Prop := bodyPost P fn R

theorem calls_enter {P : Program} {f : FuncId} {fn : Func} {c : Code} {args : List Value} {w : World} {R : Ending → World → Prop} {κ : Kap} {cs : List HProp}
    (hf : P.funcs[f]? = some fn) (hb : fn.body = some c) (hl : Nat.ble args.length fn.ntmps = true) (hs : Sat κ w cs)
    (h : Co P (bodyPost P fn R) ⟨fn.ntmps, []⟩ κ c (enumF 0 args) cs) : Calls P f args.toArray w R := by
  have hl' := Nat.le_of_ble_eq_true hl
  refine calls_of_wp hf hb (h _ w ⟨by simp; omega, rfl, fun d v e => ?_⟩ hs)
  obtain ⟨_, h2⟩ := enumF_look args 0 d v e
  have hlt : d < args.length := by
    rcases Nat.lt_or_ge d args.length with h' | h'
    · exact h'
    · simp [List.getElem?_eq_none h'] at h2
  have : d < (args.toArray).size := by simpa using hlt
  simp only [Array.getElem?_append]
  simp [hlt]
  simpa [List.getElem?_eq_getElem hlt] using h2

/-- One result's value. -/
def rvS (tmps : Array Value) : ResultVar → Sem Value
  | .tmp t => pure (tmps.getD t undef)
  | .cell t T => do loadVar T (← asAddr (tmps.getD t undef))
def Rv (P : Program) (n : Nd) (κ : Kap) (fr : List (Nat × Value)) (cs : List HProp) (r : ResultVar) (v : Value) : Prop :=
  ∀ a w, Fr n a fr → Sat κ w cs → (rvS a.tmps r).run P w = .ok v w
theorem results_eq (fn : Func) (tmps : Array Value) : results fn tmps = (do
  let vs ← fn.results.mapM (rvS tmps)
  pure (if h : vs.size = 1 then vs[0] else .tuple vs)) := by
  unfold results
  congr 2

section
variable {P : Program} {fn : Func} {n : Nd} {κ : Kap} {fr : List (Nat × Value)} {cs : List HProp} {R : Ending → World → Prop}
theorem Rv.t {t : Nat} {v : Value} (h : look fr t = some v := by rfl) : Rv P n κ fr cs (.tmp t) v := by
  intro a w hf _
  have := hf.at_ t v h
  simp [rvS, this]
theorem Rv.c {t m b o : Nat} {T : TypeId} {agg : Bool} {l : List Value} {v : Value}
    (h : look fr t = some (.pointer (some ⟨b, o, none⟩)) ∧ Rd b cs l ∧ Ty P T agg m ∧ Nat.blt 0 m = true ∧ getV agg l o m = some v := by refine ⟨rfl, ?_, ?_, ?_, ?_⟩; infer_instance; infer_instance; rfl; rfl) : Rv P n κ fr cs (.cell t T) v := by
  intro a w hf hs
  obtain ⟨h1, h2, h3, h4, h5⟩ := h
  have hl := OpL.load (P := P) (n := n) (dst := none) (ty := 0) (pos := "") (af := #[]) (g := none) (x := .tmp t) (T := T) h1 h4 h5
  obtain ⟨T', sp, fz, hb⟩ := h2.out hs hl.1
  have := hl.2 a w T' sp fz hf hb
  simp only [execOp, Instr.loadAt, hf.eval (x := .tmp t) h1, Instr.sureAddr, Sem.run_bind, Sem.run_pure, Result.andThen_ok] at this
  have e := hf.at_ t _ h1
  simp only [rvS, Array.getD_eq_getD_getElem?, e, Option.getD_some, asAddr, Sem.run_bind, Sem.run_pure, Result.andThen_ok]
  revert this
  generalize (loadVar T ⟨b, o, none⟩).run P w = r
  intro this
  cases r with
  | ok v' w' => simp at this; obtain ⟨rfl, rfl⟩ := this; rfl
  | halt x w' => simp at this

theorem ret0 {e : Exit} {a : Act} {w : World} (he : e = .ret ∨ e = .normal) (hr : fn.results = #[]) (hf : Fr n a fr) (k : R (.returned (.tuple #[])) w) (hn : n.ds = [] := by rfl) : bodyPost P fn R e a w := by
  rcases he with rfl | rfl <;> exact ⟨hf.defers.trans hn, _, by simp [results_eq, hr], k⟩
theorem ret1 {e : Exit} {a : Act} {w : World} {r : ResultVar} {v : Value} (he : e = .ret ∨ e = .normal) (hr : fn.results = #[r]) (hf : Fr n a fr) (hs : Sat κ w cs) (hv : Rv P n κ fr cs r v)
    (k : R (.returned v) w) (hn : n.ds = [] := by rfl) : bodyPost P fn R e a w := by
  have h := hv a w hf hs
  have : (results fn a.tmps).run P w = .ok v w := by
    rw [results_eq, hr]; simp [h]
  rcases he with rfl | rfl <;> exact ⟨hf.defers.trans hn, _, this, k⟩
theorem ret2 {e : Exit} {a : Act} {w : World} {r s : ResultVar} {v u : Value} (he : e = .ret ∨ e = .normal) (hr : fn.results = #[r, s]) (hf : Fr n a fr) (hs : Sat κ w cs) (hv : Rv P n κ fr cs r v) (hu : Rv P n κ fr cs s u)
    (k : R (.returned (.tuple #[v, u])) w) (hn : n.ds = [] := by rfl) : bodyPost P fn R e a w := by
  have h := hv a w hf hs
  have h' := hu a w hf hs
  have : (results fn a.tmps).run P w = .ok (.tuple #[v, u]) w := by
    rw [results_eq, hr]; simp [h, h']
  rcases he with rfl | rfl <;> exact ⟨hf.defers.trans hn, _, this, k⟩
theorem ret3 {e : Exit} {a : Act} {w : World} {r s t : ResultVar} {v u x : Value} (he : e = .ret ∨ e = .normal) (hr : fn.results = #[r, s, t]) (hf : Fr n a fr) (hs : Sat κ w cs) (hv : Rv P n κ fr cs r v) (hu : Rv P n κ fr cs s u) (hx : Rv P n κ fr cs t x)
    (k : R (.returned (.tuple #[v, u, x])) w) (hn : n.ds = [] := by rfl) : bodyPost P fn R e a w := by
  have h := hv a w hf hs
  have h' := hu a w hf hs
  have h'' := hx a w hf hs
  have : (results fn a.tmps).run P w = .ok (.tuple #[v, u, x]) w := by
    rw [results_eq, hr]; simp [h, h', h'']
  rcases he with rfl | rfl <;> exact ⟨hf.defers.trans hn, _, this, k⟩
end
end Go.Proofs.YtpcechnalfaajaaDoor

/- Parts of rows that are read; structs and slices that are built; append. -/
namespace Go.Proofs.YtpcechnalfaajaaDoor
open Go

/-- From offset 'o' on block 'b' reads so. -/
class RdAt (b : Nat) (cs : List HProp) (o : outParam Nat) (l : outParam (List Value)) : Prop where
  out : ∀ {κ w}, Sat κ w cs → l ≠ [] → ∃ T pre sp fz, pre.length = o ∧ w.heap[b]? = some (.cells (pre ++ (l ++ sp)).toArray T fz)
instance (priority := 50) RdAt.ofRd {b : Nat} {cs : List HProp} {l : List Value} [h : Rd b cs l] : RdAt b cs 0 l where
  out := fun {_ _} k hl => let ⟨T, sp, fz, e⟩ := h.out k hl; ⟨T, [], sp, fz, rfl, e⟩
instance (priority := 200) RdAt.tail {b : Nat} {c : HProp} {t : List HProp} {o : Nat} {l : List Value} [h : RdAt b t o l] : RdAt b (c :: t) o l where
  out := fun {_ _} k hl => h.out k.rows hl
/-- What a slice reads as, its elements' cells one behind the other. -/
def RdS (cs : List HProp) (p : Option Addr) (l : List Value) : Prop := l = [] ∨ ∃ b o, p = some ⟨b, o, none⟩ ∧ RdAt b cs o l
theorem RdS.tail {c : HProp} {cs : List HProp} {p : Option Addr} {l : List Value} (h : RdS cs p l) : RdS (c :: cs) p l :=
  h.imp id fun ⟨b, o, e, _⟩ => ⟨b, o, e, .tail⟩
theorem RdS.of {cs : List HProp} {b o : Nat} {l : List Value} [h : RdAt b cs o l] : RdS cs (some ⟨b, o, none⟩) l := .inr ⟨b, o, rfl, h⟩
theorem RdS.nil {cs : List HProp} {p : Option Addr} : RdS cs p [] := .inl rfl

def OpA (P : Program) (n : Nd) (o : Oper) (fr : List (Nat × Value)) (b o0 : Nat) (l : List Value) (v : Value) : Prop :=
  l ≠ [] ∧ ∀ a w T pre sp fz, Fr n a fr → pre.length = o0 → w.heap[b]? = some (.cells (pre ++ (l ++ sp)).toArray T fz) → (execOp a.eval o).run P w = .ok (.value v) w

theorem takeF_append : ∀ (n : Nat) (l r sp : List Value), takeF n l = some r → takeF n (l ++ sp) = some r := by
  intro n
  induction n with
  | zero => intro l r sp h; simpa [takeF] using h
  | succ n ih =>
    intro l r sp h
    cases l with
    | nil => simp [takeF] at h
    | cons x t =>
      simp only [takeF, List.cons_append] at h ⊢
      cases h' : takeF n t with
      | none => rw [h'] at h; cases h
      | some r' => rw [h'] at h; rw [ih t r' sp h']; exact h
theorem getV_shift {agg : Bool} {l pre sp : List Value} {k m : Nat} {v : Value} (h : getV agg l k m = some v) : getV agg (pre ++ (l ++ sp)) (pre.length + k) m = some v := by
  have e1 : ∀ (pre : List Value) (l : List Value) k m, getN (pre ++ l) (pre.length + k) m = getN l k m := by
    intro pre; induction pre with
    | nil => intro l k m; simp
    | cons x t ih => intro l k m; rw [List.length_cons, show t.length + 1 + k = (t.length + k) + 1 by omega, List.cons_append]; simpa [getN] using ih l k m
  have e2 : ∀ (l : List Value) k m r, getN l k m = some r → getN (l ++ sp) k m = some r := by
    intro l; induction l with
    | nil => intro k m r h; cases k with
      | zero => simp only [getN] at h; have := takeF_append m [] r sp h; cases sp <;> simpa [getN] using this
      | succ k => simp [getN] at h
    | cons x t ih => intro k m r h; cases k with
      | zero => simp only [getN, List.cons_append] at h ⊢; exact takeF_append m (x :: t) r sp h
      | succ k => simpa [getN] using ih k m r (by simpa [getN] using h)
  cases agg with
  | true =>
    simp only [getV, cond_true] at h ⊢
    rw [e1]
    cases hg : getN l k m with
    | none => rw [hg] at h; cases h
    | some r => rw [hg] at h; rw [e2 l k m r hg]; exact h
  | false =>
    simp only [getV, cond_false, get1_eq] at h ⊢
    rw [List.getElem?_append_right (by omega), Nat.add_sub_cancel_left]
    have hlt : k < l.length := by
      rcases Nat.lt_or_ge k l.length with h' | h'
      · exact h'
      · rw [List.getElem?_eq_none h'] at h; cases h
    rw [List.getElem?_append_left hlt]; exact h

section
variable {P : Program} {ops : Array Oper} {Q : Exit → Act → World → Prop} {n : Nd} {κ : Kap} {rest : List Oper} {fr : List (Nat × Value)} {cs : List HProp}
variable {dst : Option Nat} {d : Nat} {op : Op} {ty : TypeId} {pos : String} {af : Array Edge} {g : Option (Nat × Bool)}

theorem OpA.load {T : TypeId} {x : Operand} {b o k m : Nat} {agg : Bool} {l : List Value} {v : Value} (h : ev fr x = some (.pointer (some ⟨b, o + k, none⟩))) [ht : Ty P T agg m]
    (hm : Nat.blt 0 m = true) (hv : getV agg l k m = some v) : OpA P n ⟨dst, .load T x, ty, pos, af, g⟩ fr b o l v := by
  refine ⟨fun e => ?_, fun a w T' pre sp fz ha hp hb => ?_⟩
  · exact (OpL.load (P := P) (n := n) (dst := dst) (ty := ty) (pos := pos) (af := af) (g := g) (T := T) (fr := [(0, .pointer (some ⟨0, k, none⟩))]) (x := .tmp 0) (b := 0) rfl hm hv).1 e
  · subst hp
    have := (OpL.load (P := P) (n := n) (dst := dst) (ty := ty) (pos := pos) (af := af) (g := g) (T := T) h hm (getV_shift (pre := pre) (sp := sp) hv)).2 a w T' [] fz ha (by simpa using hb)
    exact this
theorem St.la {v : Value} {b o : Nat} {l : List Value} [hr : RdAt b cs o l] (h : OpA P n ⟨some d, op, ty, pos, af, g⟩ fr b o l v) (k : St P ops Q n κ rest ((d, v) :: fr) cs)
    (hd : Nat.blt d n.n = true := by rfl) (hw : wantedF ops fr g true = true := by rfl) : St P ops Q n κ (⟨some d, op, ty, pos, af, g⟩ :: rest) fr cs := by
  intro a w hf hs
  simp only [wpListY_cons, wanted_of (o := ⟨some d, op, ty, pos, af, g⟩) hf hw, if_true]
  obtain ⟨T, pre, sp, fz, hp, hb⟩ := hr.out hs h.1
  simp only [Oper.wpY, h.2 a w T pre sp fz hf hp hb, Oper.upY, Oper.upon]
  exact k _ _ (hf.put hd) hs
/-- A load out of a slice, what it gives being told. -/
theorem St.lx {T : TypeId} {x : Operand} {b o i m : Nat} {agg : Bool} {l : List Value} {v : Value} (hv : getV agg l i m = some v) (k : St P ops Q n κ rest ((d, v) :: fr) cs)
    (h : ev fr x = some (.pointer (some ⟨b, o + i, none⟩)) ∧ RdAt b cs o l ∧ Ty P T agg m ∧ Nat.blt 0 m = true := by refine ⟨rfl, ?_, ?_, ?_⟩; infer_instance; infer_instance; rfl)
    (hd : Nat.blt d n.n = true := by rfl) (hw : wantedF ops fr g true = true := by rfl) : St P ops Q n κ (⟨some d, .load T x, ty, pos, af, g⟩ :: rest) fr cs :=
  have := h.2.1; have := h.2.2.1; .la (.load h.1 h.2.2.2 hv) k hd hw

/-- A struct type's fields: their places and sizes. -/
class Bd (P : Program) (T : TypeId) (pl : outParam (List (Nat × Nat))) : Prop where
  run : ∀ w, (do match ← underlying T with
    | .struct fields => fields.mapM fun f => do pure (f.offset, ← sizeOf f.type)
    | _ => stuck "" : Sem (Array (Nat × Nat))).run P w = .ok pl.toArray w
  str : ∀ w, ∃ fs, (underlying T).run P w = .ok (.struct fs) w

/-- The zero, with parts in their places. -/
def bld (z : List Value) (pl : List (Nat × Nat)) : List (Nat × Value) → Option (List Value)
  | [] => some z
  | (i, v) :: t => match pl[i]? with
    | some (o, s) => bif Nat.beq (vc v).length s && Nat.blt 0 s then (match putN z o (vc v) with
      | some z' => bld z' pl t
      | none => none) else none
    | none => none

theorem foldl_put : ∀ (vs : List Value) (c : List Value) (o : Nat), o + vs.length ≤ c.length →
    (vs.toArray.zipIdx.foldl (fun cs (c, j) => cs.setIfInBounds (o + j) c) c.toArray) = (c.take o ++ vs ++ c.drop (o + vs.length)).toArray := by
  intro vs c o h
  have gen : ∀ (vs : List Value) (i : Nat) (c : List Value), o + i + vs.length ≤ c.length →
      ((vs.zipIdx i).foldl (fun (cs : Array Value) (x : Value × Nat) => cs.setIfInBounds (o + x.2) x.1) c.toArray) = (c.take (o + i) ++ vs ++ c.drop (o + i + vs.length)).toArray := by
    intro vs
    induction vs with
    | nil => intro i c h; simp
    | cons v vs ih =>
      intro i c h
      simp only [List.zipIdx_cons, List.foldl_cons]
      have e : (c.toArray).setIfInBounds (o + i) v = (c.set (o + i) v).toArray := by simp
      rw [e, ih (i + 1) (c.set (o + i) v) (by simp at h ⊢; omega)]
      congr 1
      have hlt : o + i < c.length := by simp at h; omega
      have h1 : (c.set (o + i) v).take (o + (i + 1)) = c.take (o + i) ++ [v] := by
        rw [show o + (i + 1) = (o + i) + 1 by omega, List.take_succ_eq_append_getElem (by simpa using hlt)]
        simp [List.take_set_of_le]
      have h2 : (c.set (o + i) v).drop (o + (i + 1) + vs.length) = c.drop (o + i + (vs.length + 1)) := by
        rw [List.drop_set_of_lt (by omega)]; congr 1; omega
      rw [h1, List.length_cons, ← h2]; simp
  have := gen vs 0 c (by simpa using h)
  simpa using this

theorem fill_bld {pl : List (Nat × Nat)} {place : Nat → Option (Nat × Nat)} (hp : ∀ i q, pl[i]? = some q → place i = some q) : ∀ (parts : List (Nat × Value)) (z r : List Value), bld z pl parts = some r →
    Instr.fill place z.toArray parts = some r.toArray := by
  intro parts
  induction parts with
  | nil => intro z r h; simp [bld] at h; subst h; simp [Instr.fill]
  | cons iv t ih =>
    intro z r h
    obtain ⟨i, v⟩ := iv
    simp only [bld] at h
    simp only [Instr.fill]
    cases h1 : pl[i]? with
    | none => rw [h1] at h; cases h
    | some os =>
      obtain ⟨o, s⟩ := os
      rw [h1] at h
      rw [hp i _ h1]
      simp only at h ⊢
      cases h2 : (Nat.beq (vc v).length s && Nat.blt 0 s) with
      | false => rw [h2] at h; cases h
      | true =>
        rw [h2] at h
        simp only [cond_true] at h
        cases h3 : putN z o (vc v) with
        | none => rw [h3] at h; cases h
        | some z' =>
          rw [h3] at h
          simp only [Bool.and_eq_true] at h2
          have hs := Nat.eq_of_beq_eq_true h2.1
          have h0 : 0 < s := Nat.blt_eq.mp h2.2
          obtain ⟨e, hle⟩ := putN_eq (vc v) z o z' h3
          simp only [vc_cells, List.size_toArray]
          have hv : vc v ≠ [] := fun k => by rw [k] at hs; simp at hs; omega
          have hle := hle hv
          rw [if_neg (by simp [hs]; omega), foldl_put _ _ _ hle, ← e]
          exact ih z' r h

def evp (fr : List (Nat × Value)) : List (Nat × Operand) → Option (List (Nat × Value))
  | [] => some []
  | (i, x) :: t => match ev fr x, evp fr t with
    | some v, some r => some ((i, v) :: r)
    | _, _ => none
theorem evp_map {a : Act} (ha : Fr n a fr) : ∀ {xs : List (Nat × Operand)} {vs : List (Nat × Value)}, evp fr xs = some vs → xs.map (fun (i, x) => (i, a.eval x)) = vs := by
  intro xs
  induction xs with
  | nil => intro vs h; simp [evp] at h; simp [← h]
  | cons ix t ih =>
    obtain ⟨i, x⟩ := ix
    intro vs h
    simp only [evp] at h
    cases h1 : ev fr x with
    | none => rw [h1] at h; simp at h
    | some v =>
      cases h2 : evp fr t with
      | none => rw [h1, h2] at h; simp at h
      | some r => rw [h1, h2] at h; simp at h; subst h; simp [ha.eval h1, ih h2]

/-- A struct that is built. -/
theorem OpQ.build {T : TypeId} {xs : List (Nat × Operand)} {vs : List (Nat × Value)} {z r : List Value} {pl : List (Nat × Nat)} [hz : Zr P T z] [hb : Bd P T pl]
    (hx : evp fr xs = some vs) (hr : bld z pl vs = some r) : OpQ P n ⟨dst, .build T xs.toArray, ty, pos, af, g⟩ fr (.agg r.toArray) := by
  intro a w ha
  obtain ⟨v0, hv0, hc⟩ := hz.run w
  obtain ⟨fs, hfs⟩ := hb.str w
  have hrun := hb.run w
  simp only [Sem.run_bind, hfs, Result.andThen_ok] at hrun
  have hf := fill_bld (place := (pl.toArray[·]?)) (fun i q h => by simpa using h) vs z r hr
  have hm := evp_map ha hx
  have e : (xs.toArray.map fun (i, x) => (i, a.eval x)).toList = vs := by simpa using hm
  simp only [execOp, Instr.build, Sem.run_bind, hv0, Result.andThen_ok, hfs, hrun, hc]
  rw [e, hf]; rfl
theorem St.bd {T : TypeId} {xs : List (Nat × Operand)} {vs : List (Nat × Value)} {z r : List Value} {pl : List (Nat × Nat)} (k : St P ops Q n κ rest ((d, .agg r.toArray) :: fr) cs)
    (h : Zr P T z ∧ Bd P T pl ∧ evp fr xs = some vs ∧ bld z pl vs = some r := by refine ⟨?_, ?_, ?_, ?_⟩; infer_instance; infer_instance; rfl; rfl)
    (hd : Nat.blt d n.n = true := by rfl) (hw : wantedF ops fr g true = true := by rfl) : St P ops Q n κ (⟨some d, .build T xs.toArray, ty, pos, af, g⟩ :: rest) fr cs :=
  .q (have := h.1; have := h.2.1; .build h.2.2.1 h.2.2.2) k hd hw
/-- A zero struct (no part). -/
theorem St.bz {T : TypeId} {z : List Value} {pl : List (Nat × Nat)} (k : St P ops Q n κ rest ((d, .agg z.toArray) :: fr) cs)
    (h : Zr P T z ∧ Bd P T pl := by refine ⟨?_, ?_⟩; infer_instance; infer_instance)
    (hd : Nat.blt d n.n = true := by rfl) (hw : wantedF ops fr g true = true := by rfl) : St P ops Q n κ (⟨some d, .build T #[], ty, pos, af, g⟩ :: rest) fr cs :=
  .q (have := h.1; have := h.2; OpQ.build (xs := []) (vs := []) rfl rfl) k hd hw

/-- So many zeros behind each other. -/
def reps : Nat → List Value → List Value
  | 0, _ => []
  | k + 1, z => z ++ reps k z
theorem reps_length (k : Nat) (z : List Value) : (reps k z).length = k * z.length := by
  induction k with
  | zero => simp [reps]
  | succ k ih => simp [reps, ih, Nat.succ_mul, Nat.add_comm]
theorem range_mod (z : List Value) (hz : z ≠ []) : ∀ k, ((Array.range (k * z.length)).map fun i => z.toArray[i % z.toArray.size]!) = (reps k z).toArray := by
  intro k
  apply Array.ext_getElem?
  intro i
  simp only [Array.getElem?_map, List.getElem?_toArray, List.size_toArray]
  have hpos : 0 < z.length := List.length_pos_iff.2 hz
  have gen : ∀ k i, i < k * z.length → (reps k z)[i]? = some (z.toArray[i % z.length]!) := by
    intro k
    induction k with
    | zero => intro i h; simp at h
    | succ k ih =>
      intro i h
      simp only [reps]
      by_cases hi : i < z.length
      · rw [List.getElem?_append_left hi, Nat.mod_eq_of_lt hi]
        simp [hi]
      · rw [List.getElem?_append_right (by omega), ih (i - z.length) (by rw [Nat.succ_mul] at h; omega)]
        congr 2
        conv => rhs; rw [Nat.mod_eq_sub_mod (by omega)]
  by_cases hi : i < k * z.length
  · rw [gen k i hi]; simp [hi]
  · rw [List.getElem?_eq_none (by rw [reps_length]; omega)]; simp [hi]

/-- A slice that is built: a new row. -/
theorem OpN.buildSlice {T E : TypeId} {m by_ len : Nat} {xs : List (Nat × Operand)} {vs : List (Nat × Value)} {z r : List Value} [hs : Sl P T E m by_] [hz : Zr P E z]
    (hm : z.length = m ∧ Nat.blt 0 m = true ∧ Nat.ble (len * m) 65536 = true ∧ Nat.blt 0 len = true) (hx : evp fr xs = some vs)
    (hr : bld (reps len z) ((List.range len).map fun i => (i * m, m)) vs = some r) :
    OpN P n κ ⟨dst, .buildSlice T len xs.toArray, ty, pos, af, g⟩ fr cs (fun v cs' => ∃ b, v = .slice (some ⟨b, 0, none⟩) len len ∧ cs' = pts b (E, r) :: cs) := by
  intro a w next Q ha hst hn
  obtain ⟨v0, hv0, hc⟩ := hz.run w
  have hb : len * m ≤ 65536 := Nat.le_of_ble_eq_true hm.2.2.1
  have h0 : 0 < m := Nat.blt_eq.mp hm.2.1
  have h1 : 0 < len := Nat.blt_eq.mp hm.2.2.2
  have hpos : 0 < len * m := Nat.mul_pos h1 h0
  have hzne : z ≠ [] := fun k => by rw [k] at hm; simp at hm; omega
  have hm' := evp_map ha hx
  have e : (xs.toArray.map fun (i, x) => (i, a.eval x)).toList = vs := by simpa using hm'
  have hzl := hm.1
  subst hzl
  have hf := fill_bld (place := fun i => some (i * z.length, z.length)) (fun i q h => by
    rcases Nat.lt_or_ge i len with h2 | h2
    · simp [h2] at h; simp [h]
    · rw [List.getElem?_eq_none (by simpa using h2)] at h; cases h) vs (reps len z) r hr
  have hzz := range_mod z hzne len
  simp only [Oper.wpY, execOp, Instr.buildSlice, Sem.run_bind, hs.und, hs.size, Result.andThen_ok]
  rw [if_neg (by omega), if_neg (by omega)]
  simp only [Sem.run_pure, Sem.run_bind, hv0, Result.andThen_ok, hc, hzz, e, hf, newRow, newObj, Sem.run, Oper.upY, Oper.upon]
  exact hn _ _ _ ⟨_, rfl, rfl⟩ (hst.pts_new (E, r))
theorem St.bs {T E : TypeId} {m by_ len : Nat} {xs : List (Nat × Operand)} {vs : List (Nat × Value)} {z r : List Value}
    (k : ∀ b, St P ops Q n κ rest ((d, .slice (some ⟨b, 0, none⟩) len len) :: fr) (pts b (E, r) :: cs))
    (h : Sl P T E m by_ ∧ Zr P E z ∧ (z.length = m ∧ Nat.blt 0 m = true ∧ Nat.ble (len * m) 65536 = true ∧ Nat.blt 0 len = true) ∧ evp fr xs = some vs ∧ bld (reps len z) ((List.range len).map fun i => (i * m, m)) vs = some r := by
      refine ⟨?_, ?_, ⟨?_, ?_, ?_, ?_⟩, ?_, ?_⟩; infer_instance; infer_instance; rfl; rfl; rfl; rfl; rfl; rfl)
    (hd : Nat.blt d n.n = true := by rfl) (hw : wantedF ops fr g true = true := by rfl) : St P ops Q n κ (⟨some d, .buildSlice T len xs.toArray, ty, pos, af, g⟩ :: rest) fr cs :=
  .nn (have := h.1; have := h.2.1; .buildSlice h.2.2.1 h.2.2.2.1 h.2.2.2.2) (fun _ _ ⟨b, e, e'⟩ => by rw [e, e']; exact k b) hd hw
end
end Go.Proofs.YtpcechnalfaajaaDoor

/- math/bits; a loop's first look. -/
namespace Go.Proofs.YtpcechnalfaajaaDoor
open Go

def sub64Entry : Array Value → Sem Value := fun args => do
  let (x, y, b) ← Extern.MathBitsCarry.three "Sub64" args
  pure (Extern.MathBitsCarry.pair ((x + Extern.MathBitsCarry.m64 - y - b) % Extern.MathBitsCarry.m64) (if x < y + b then 1 else 0))
theorem run_sub64 {P : Program} (x y c : Int) (hx : 0 ≤ x) (hy : 0 ≤ y) (hy2 : y < 18446744073709551616) (hc0 : 0 ≤ c) (hc : c ≤ 1) (w : World) :
    (sub64Entry #[.int .u64 x, .int .u64 y, .int .u64 c]).run P w =
      .ok (.tuple #[.int .u64 ((x - y - c) % 18446744073709551616), .int .u64 (if x < y + c then 1 else 0)]) w := by
  have key : ∀ k : Nat, k ≤ 1 → (sub64Entry #[.int .u64 x, .int .u64 y, .int .u64 (k : Int)]).run P w =
      .ok (Extern.MathBitsCarry.pair ((x.toNat + Extern.MathBitsCarry.m64 - y.toNat - k) % Extern.MathBitsCarry.m64) (if x.toNat < y.toNat + k then 1 else 0)) w := by
    intro k hk
    have : k = 0 ∨ k = 1 := by omega
    rcases this with rfl | rfl <;> rfl
  obtain ⟨k, rfl⟩ := Int.eq_ofNat_of_zero_le hc0
  rw [key k (by omega)]
  obtain ⟨X, rfl⟩ := Int.eq_ofNat_of_zero_le hx
  obtain ⟨Y, rfl⟩ := Int.eq_ofNat_of_zero_le hy
  simp only [Extern.MathBitsCarry.pair, Extern.MathBitsCarry.m64, Int.toNat_natCast]
  congr 4
  · simp; omega
  · simp only [List.cons.injEq, Value.int.injEq, true_and, and_true]
    by_cases h : X < Y + k
    · rw [if_pos h, if_pos (by omega)]; rfl
    · rw [if_neg h, if_neg (by omega)]; rfl

class A64 (P : Program) (f : FuncId) : Prop where
  run : ∀ x y c w, 0 ≤ x → 0 ≤ y → 0 ≤ c → c ≤ 1 → (callFunc f #[.int .u64 x, .int .u64 y, .int .u64 c]).run P w =
    .ok (.value (.tuple #[.int .u64 ((x + y + c) % 18446744073709551616), .int .u64 ((x + y + c) / 18446744073709551616)])) w
class S64 (P : Program) (f : FuncId) : Prop where
  run : ∀ x y c w, 0 ≤ x → 0 ≤ y → y < 18446744073709551616 → 0 ≤ c → c ≤ 1 → (callFunc f #[.int .u64 x, .int .u64 y, .int .u64 c]).run P w =
    .ok (.value (.tuple #[.int .u64 ((x - y - c) % 18446744073709551616), .int .u64 (if x < y + c then 1 else 0)])) w
theorem A64.mk' {P : Program} {f : FuncId} {fn : Func} (hf : P.funcs[f]? = some fn) (hname : (fn.name == "runtime.NumGoroutine") = false)
    (hb : fn.body.isNone = true) (hn : Extern.findNext fn = none) (he : Extern.find fn = some add64Entry) : A64 P f :=
  ⟨fun x y c w h1 h2 h3 h4 => by rw [run_callFunc_extern hf hname hb hn he, run_add64 x y c h1 h2 h3 h4]; rfl⟩
theorem S64.mk' {P : Program} {f : FuncId} {fn : Func} (hf : P.funcs[f]? = some fn) (hname : (fn.name == "runtime.NumGoroutine") = false)
    (hb : fn.body.isNone = true) (hn : Extern.findNext fn = none) (he : Extern.find fn = some sub64Entry) : S64 P f :=
  ⟨fun x y c w h1 h2 h2' h3 h4 => by rw [run_callFunc_extern hf hname hb hn he, run_sub64 x y c h1 h2 h2' h3 h4]; rfl⟩

section
variable {P : Program} {ops : Array Oper} {Q : Exit → Act → World → Prop} {n : Nd} {κ : Kap} {rest : List Oper} {fr : List (Nat × Value)} {cs : List HProp}
variable {dst : Option Nat} {d : Nat} {op : Op} {ty : TypeId} {pos : String} {af : Array Edge} {g : Option (Nat × Bool)}

theorem OpQ.fn {f : FuncId} {xs : List Operand} {ts : Array TypeId} {vs : List Value} {v : Value} (hx : evs fr xs = some vs) (h : ∀ w, (callFunc f vs.toArray).run P w = .ok (.value v) w) :
    OpQ P n ⟨dst, .call ⟨.value (.func f), xs.toArray, ts⟩, ty, pos, af, g⟩ fr v := by
  intro a w ha
  have hm := evs_map ha hx
  simp only [execOp, resolve, Act.eval, Deferred.ofValue, Sem.run_bind, Sem.run_pure, Result.andThen_ok, invoke]
  have e : (#[] ++ xs.toArray.map a.eval ++ #[] : Array Value) = vs.toArray := by simp [hm]
  have e' : ((#[] : Array Value) ++ xs.toArray.map (fun x => a.eval x) ++ #[]) = vs.toArray := e
  rw [e', h]
theorem St.a64 {f : FuncId} {xs : List Operand} {ts : Array TypeId} {x y c : Int} [h64 : A64 P f]
    (k : St P ops Q n κ rest ((d, .tuple [.int .u64 ((x + y + c) % 18446744073709551616), .int .u64 ((x + y + c) / 18446744073709551616)].toArray) :: fr) cs)
    (hx : evs fr xs = some [.int .u64 x, .int .u64 y, .int .u64 c] := by rfl) (hr : 0 ≤ x ∧ 0 ≤ y ∧ 0 ≤ c ∧ c ≤ 1 := by omega)
    (hd : Nat.blt d n.n = true := by rfl) (hw : wantedF ops fr g true = true := by rfl) : St P ops Q n κ (⟨some d, .call ⟨.value (.func f), xs.toArray, ts⟩, ty, pos, af, g⟩ :: rest) fr cs :=
  .q (.fn hx fun w => h64.run x y c w hr.1 hr.2.1 hr.2.2.1 hr.2.2.2) k hd hw
theorem St.s64 {f : FuncId} {xs : List Operand} {ts : Array TypeId} {x y c : Int} [h64 : S64 P f]
    (k : St P ops Q n κ rest ((d, .tuple [.int .u64 ((x - y - c) % 18446744073709551616), .int .u64 (if x < y + c then 1 else 0)].toArray) :: fr) cs)
    (hx : evs fr xs = some [.int .u64 x, .int .u64 y, .int .u64 c] := by rfl) (hr : 0 ≤ x ∧ 0 ≤ y ∧ y < 18446744073709551616 ∧ 0 ≤ c ∧ c ≤ 1 := by omega)
    (hd : Nat.blt d n.n = true := by rfl) (hw : wantedF ops fr g true = true := by rfl) : St P ops Q n κ (⟨some d, .call ⟨.value (.func f), xs.toArray, ts⟩, ty, pos, af, g⟩ :: rest) fr cs :=
  .q (.fn hx fun w => h64.run x y c w hr.1 hr.2.1 hr.2.2.1 hr.2.2.2.1 hr.2.2.2.2) k hd hw

def allLook (fr : List (Nat × Value)) : List (Nat × Value) → Prop
  | [] => True
  | (d, v) :: t => look fr d = some v ∧ allLook fr t
theorem allLook_of : ∀ {fr' : List (Nat × Value)}, allLook fr fr' → ∀ d v, look fr' d = some v → look fr d = some v := by
  intro fr'
  induction fr' with
  | nil => intro _ d v h; simp [look] at h
  | cons e t ih =>
    obtain ⟨d0, v0⟩ := e
    intro h d v hl
    simp only [look] at hl
    cases hb : Nat.beq d0 d with
    | true => have := Nat.eq_of_beq_eq_true hb; subst this; simp at hl; rw [h.1, hl]
    | false => simp [hb] at hl; exact ih h.2 d v hl
theorem Fr.to {a : Act} {fr' : List (Nat × Value)} (h : Fr n a fr) (k : allLook fr fr') : Fr n a fr' := h.weaken (allLook_of k)

/-- On to what comes next. -/
theorem St.go {y : Code} {Q' : Exit → Act → World → Prop} (k : Co P Q' n κ y fr cs) (hq : ∀ a w, y.wp P Q' a w → Q .normal a w := by exact fun _ _ h => h) : St P ops Q n κ [] fr cs :=
  fun a w hf hs => wpListY_nil ▸ hq a w (k a w hf hs)
theorem Co.go {y : Code} {Q' : Exit → Act → World → Prop} (k : Co P Q' n κ y fr cs) (hq : ∀ a w, y.wp P Q' a w → Q .normal a w := by exact fun _ _ h => h) : Co P Q n κ .skip fr cs :=
  fun a w hf hs => wp_skip (hq a w (k a w hf hs))
theorem Co.xgo {id : Nat} {y : Code} {Q' : Exit → Act → World → Prop} (k : Co P Q' n κ y fr cs) (hq : ∀ a w, y.wp P Q' a w → Q (.exit id) a w := by exact fun _ _ h => h) : Co P Q n κ (.exit id) fr cs :=
  fun a w hf hs => wp_exit (hq a w (k a w hf hs))
theorem Co.lp {c : Code} {ι : Type} (I : ι → List (Nat × Value)) (C : ι → List HProp) (p : ι → Prop) (μ : ι → Nat) (i : ι)
    (hp : p i) (h0 : allLook fr (I i)) (hc : cs = C i)
    (round : ∀ i, p i → Co P (Exit.then (fun a w => ∃ j, p j ∧ μ j < μ i ∧ Fr n a (I j) ∧ Sat κ w (C j)) Q) n κ c (I i) (C i)) : Co P Q n κ (.loop c) fr cs := by
  refine Co.loop (ι := { i : ι // p i }) (fun i => I i.1) (fun i => C i.1) (fun i => μ i.1) ⟨i, hp⟩ (allLook_of h0) hc fun i => ?_
  intro a w hf hs
  refine wp_mono (round i.1 i.2 a w hf hs) fun e a w h => ?_
  cases e with
  | normal => obtain ⟨j, h1, h2, h3, h4⟩ := h; exact ⟨⟨j, h1⟩, h2, h3, h4⟩
  | _ => exact h

/-- Where a return ends up. -/
class RetTo (e : Exit) (Q : Exit → Act → World → Prop) (Q0 : outParam (Act → World → Prop)) : Prop where
  out : ∀ a w, Q0 a w → Q e a w
instance {P : Program} {fn : Func} {R : Ending → World → Prop} : RetTo .ret (bodyPost P fn R) (bodyPost P fn R .ret) := ⟨fun _ _ h => h⟩
instance {P : Program} {fn : Func} {R : Ending → World → Prop} : RetTo .normal (bodyPost P fn R) (bodyPost P fn R .normal) := ⟨fun _ _ h => h⟩
instance {K : Act → World → Prop} {Q : Exit → Act → World → Prop} {Q0 : Act → World → Prop} [h : RetTo .ret Q Q0] : RetTo .ret (Exit.then K Q) Q0 := ⟨fun a w k => h.out a w k⟩
instance {K : Act → World → Prop} {Q : Exit → Act → World → Prop} : RetTo .normal (Exit.then K Q) K := ⟨fun _ _ k => k⟩
instance {id : Nat} {Q : Exit → Act → World → Prop} {Q0 : Act → World → Prop} [h : RetTo .ret Q Q0] : RetTo .ret (Exit.inBlock id Q) Q0 := ⟨fun a w k => h.out a w k⟩
instance {id : Nat} {Q : Exit → Act → World → Prop} {Q0 : Act → World → Prop} [h : RetTo .normal Q Q0] : RetTo .normal (Exit.inBlock id Q) Q0 := ⟨fun a w k => h.out a w k⟩
instance {i : Nat} {K : Act → World → Prop} {Q : Exit → Act → World → Prop} {Q0 : Act → World → Prop} [h : RetTo (.exit i) Q Q0] : RetTo (.exit i) (Exit.then K Q) Q0 := ⟨fun a w k => h.out a w k⟩
instance {i : Nat} {Q : Exit → Act → World → Prop} {Q0 : Act → World → Prop} [h : RetTo .normal Q Q0] : RetTo (.exit i) (Exit.inBlock i Q) Q0 := ⟨fun a w k => by simpa [Exit.inBlock] using h.out a w k⟩

section
variable {fn : Func} {R : Ending → World → Prop} {r s t : ResultVar} {v u x : Value}
theorem Co.r0 (k : ∀ w, Sat κ w cs → R (.returned (.tuple #[])) w) (hq : RetTo .ret Q (bodyPost P fn R .ret) := by infer_instance) (hr : fn.results = #[] := by rfl) (hn : n.ds = [] := by rfl) : Co P Q n κ .ret fr cs :=
  .ret fun a w hf hs => hq.out a w (ret0 (.inl rfl) hr hf (k w hs) hn)
theorem Co.r1 (k : ∀ w, Sat κ w cs → R (.returned v) w) (h : RetTo .ret Q (bodyPost P fn R .ret) ∧ fn.results = #[r] ∧ Rv P n κ fr cs r v := by refine ⟨?_, ?_, ?_⟩; infer_instance; rfl; first | exact .t | exact .c) (hn : n.ds = [] := by rfl) : Co P Q n κ .ret fr cs :=
  .ret fun a w hf hs => h.1.out a w (ret1 (.inl rfl) h.2.1 hf hs h.2.2 (k w hs) hn)
theorem Co.r2 (k : ∀ w, Sat κ w cs → R (.returned (.tuple #[v, u])) w)
    (h : RetTo .ret Q (bodyPost P fn R .ret) ∧ fn.results = #[r, s] ∧ Rv P n κ fr cs r v ∧ Rv P n κ fr cs s u := by refine ⟨?_, ?_, ?_, ?_⟩; infer_instance; rfl; (first | exact .t | exact .c); (first | exact .t | exact .c)) (hn : n.ds = [] := by rfl) : Co P Q n κ .ret fr cs :=
  .ret fun a w hf hs => h.1.out a w (ret2 (.inl rfl) h.2.1 hf hs h.2.2.1 h.2.2.2 (k w hs) hn)
theorem Co.r3 (k : ∀ w, Sat κ w cs → R (.returned (.tuple #[v, u, x])) w)
    (h : RetTo .ret Q (bodyPost P fn R .ret) ∧ fn.results = #[r, s, t] ∧ Rv P n κ fr cs r v ∧ Rv P n κ fr cs s u ∧ Rv P n κ fr cs t x := by refine ⟨?_, ?_, ?_, ?_, ?_⟩; infer_instance; rfl; (first | exact .t | exact .c); (first | exact .t | exact .c); (first | exact .t | exact .c)) (hn : n.ds = [] := by rfl) : Co P Q n κ .ret fr cs :=
  .ret fun a w hf hs => h.1.out a w (ret3 (.inl rfl) h.2.1 hf hs h.2.2.1 h.2.2.2.1 h.2.2.2.2 (k w hs) hn)
/-- A function without results that runs off its end. -/
theorem St.e0 (k : ∀ w, Sat κ w cs → R (.returned (.tuple #[])) w) (hq : RetTo .normal Q (bodyPost P fn R .normal) := by infer_instance) (hr : fn.results = #[] := by rfl) (hn : n.ds = [] := by rfl) : St P ops Q n κ [] fr cs :=
  .nil fun a w hf hs => hq.out a w (ret0 (.inr rfl) hr hf (k w hs) hn)
theorem Co.e0 (k : ∀ w, Sat κ w cs → R (.returned (.tuple #[])) w) (hq : RetTo .normal Q (bodyPost P fn R .normal) := by infer_instance) (hr : fn.results = #[] := by rfl) (hn : n.ds = [] := by rfl) : Co P Q n κ .skip fr cs :=
  .skip fun a w hf hs => hq.out a w (ret0 (.inr rfl) hr hf (k w hs) hn)
theorem Co.x0 {id : Nat} (k : ∀ w, Sat κ w cs → R (.returned (.tuple #[])) w) (hq : RetTo (.exit id) Q (bodyPost P fn R .normal) := by infer_instance) (hr : fn.results = #[] := by rfl) (hn : n.ds = [] := by rfl) : Co P Q n κ (.exit id) fr cs :=
  .exit fun a w hf hs => hq.out a w (ret0 (.inr rfl) hr hf (k w hs) hn)
end
end
end Go.Proofs.YtpcechnalfaajaaDoor
