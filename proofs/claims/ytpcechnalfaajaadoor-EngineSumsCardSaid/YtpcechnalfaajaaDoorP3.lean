/- Part 3 of the proof: V1, V2, V3, V4, V5, U1, U2, U3, U4, U12, V6, V7, V9, V8, V10. -/
import Derived.Test.YtpcechnalfaajaaDoorP2
import Derived.ScopeJumps
/- Accounts, transfers, rows, as data and as cells; what the rules say of them (layer 9), in plain Lean. -/
namespace Go.Proofs.YtpcechnalfaajaaDoor
open Go Go.Proofs

structure Hash where
  l : List UInt8
  len : l.length = 32
  deriving DecidableEq
def hcells (h : Hash) : List Value := h.l.map fun c => .int .u8 (c.toNat : Int)
@[simp] theorem hcells_len (h : Hash) : (hcells h).length = 32 := by simp [hcells, h.len]
theorem one_map (l : List UInt8) : one (l.map fun c => .int .u8 (c.toNat : Int)) = true := by
  induction l with
  | nil => rfl
  | cons x t ih => simp [one, one1]; exact ih
@[simp] theorem hcells_one (h : Hash) : one (hcells h) = true := one_map h.l

structure Account where
  id : Num
  ledger : Int
  flags : Int
  dp : Num
  dq : Num
  cp : Num
  cq : Num
  time : Int
  rows : Int
  root : Hash
  deriving DecidableEq
structure Transfer where
  id : Num
  debit : Num
  credit : Num
  amount : Num
  pid : Num
  timeout : Int
  ledger : Int
  flags : Int
  time : Int
  tick : Int
  state : Int
  deriving DecidableEq
structure Row where
  tr : Num
  time : Int
  event : Int
  amount : Num
  dp : Num
  dq : Num
  cp : Num
  cq : Num
  deriving DecidableEq

def i64 (z : Int) : Value := .int .i64 z
def hiw (x : Num) : Value := .int .u64 ((x.toNat / 18446744073709551616 : Nat) : Int)
def low (x : Num) : Value := .int .u64 ((x.toNat % 18446744073709551616 : Nat) : Int)
def encA (a : Account) : List Value :=
  .int .u64 ((a.id.toNat / 18446744073709551616 : Nat) : Int) :: .int .u64 ((a.id.toNat % 18446744073709551616 : Nat) : Int) :: .int .i64 a.ledger :: .int .i64 a.flags ::
  .int .u64 ((a.dp.toNat / 18446744073709551616 : Nat) : Int) :: .int .u64 ((a.dp.toNat % 18446744073709551616 : Nat) : Int) :: .int .u64 ((a.dq.toNat / 18446744073709551616 : Nat) : Int) :: .int .u64 ((a.dq.toNat % 18446744073709551616 : Nat) : Int) ::
  .int .u64 ((a.cp.toNat / 18446744073709551616 : Nat) : Int) :: .int .u64 ((a.cp.toNat % 18446744073709551616 : Nat) : Int) :: .int .u64 ((a.cq.toNat / 18446744073709551616 : Nat) : Int) :: .int .u64 ((a.cq.toNat % 18446744073709551616 : Nat) : Int) ::
  .int .i64 a.time :: .int .i64 a.rows :: hcells a.root
def encT (t : Transfer) : List Value :=
  [.int .u64 ((t.id.toNat / 18446744073709551616 : Nat) : Int), .int .u64 ((t.id.toNat % 18446744073709551616 : Nat) : Int), .int .u64 ((t.debit.toNat / 18446744073709551616 : Nat) : Int), .int .u64 ((t.debit.toNat % 18446744073709551616 : Nat) : Int),
   .int .u64 ((t.credit.toNat / 18446744073709551616 : Nat) : Int), .int .u64 ((t.credit.toNat % 18446744073709551616 : Nat) : Int), .int .u64 ((t.amount.toNat / 18446744073709551616 : Nat) : Int), .int .u64 ((t.amount.toNat % 18446744073709551616 : Nat) : Int),
   .int .u64 ((t.pid.toNat / 18446744073709551616 : Nat) : Int), .int .u64 ((t.pid.toNat % 18446744073709551616 : Nat) : Int), .int .i64 t.timeout, .int .i64 t.ledger, .int .i64 t.flags, .int .i64 t.time, .int .i64 t.tick, .int .i64 t.state]
def encR (r : Row) : List Value :=
  [.int .u64 ((r.tr.toNat / 18446744073709551616 : Nat) : Int), .int .u64 ((r.tr.toNat % 18446744073709551616 : Nat) : Int), .int .i64 r.time, .int .i64 r.event, .int .u64 ((r.amount.toNat / 18446744073709551616 : Nat) : Int), .int .u64 ((r.amount.toNat % 18446744073709551616 : Nat) : Int),
   .int .u64 ((r.dp.toNat / 18446744073709551616 : Nat) : Int), .int .u64 ((r.dp.toNat % 18446744073709551616 : Nat) : Int), .int .u64 ((r.dq.toNat / 18446744073709551616 : Nat) : Int), .int .u64 ((r.dq.toNat % 18446744073709551616 : Nat) : Int),
   .int .u64 ((r.cp.toNat / 18446744073709551616 : Nat) : Int), .int .u64 ((r.cp.toNat % 18446744073709551616 : Nat) : Int), .int .u64 ((r.cq.toNat / 18446744073709551616 : Nat) : Int), .int .u64 ((r.cq.toNat % 18446744073709551616 : Nat) : Int)]
@[simp] theorem encA_len (a : Account) : (encA a).length = 46 := by simp [encA]
@[simp] theorem encA_one (a : Account) : one (encA a) = true := by simp [encA, one, one1]
@[simp] theorem encT_len (t : Transfer) : (encT t).length = 16 := rfl
@[simp] theorem encT_one (t : Transfer) : one (encT t) = true := rfl
@[simp] theorem encR_len (r : Row) : (encR r).length = 14 := rfl
@[simp] theorem encR_one (r : Row) : one (encR r) = true := rfl

/- Bits of flags, as the model reckons them. -/
abbrev band (a b : Int) : Int := bandK .i64 a b
abbrev bor (a b : Int) : Int := borK .i64 a b
abbrev bclr (a b : Int) : Int := bclrK .i64 a b
def big : Nat := 340282366920938463463374607431768211456

/-- The sum of some numbers, and does it fit? -/
def addN (xs : List Num) : Num := if (xs.map (·.toNat)).sum < 340282366920938463463374607431768211456 then BitVec.ofNat 128 (xs.map (·.toNat)).sum else 0
def fitN (xs : List Num) : Bool := decide ((xs.map (·.toNat)).sum < 340282366920938463463374607431768211456)
def subN (a b : Num) : Num := if a.toNat < b.toNat then 0 else a - b
def leastN (xs : List Num) : Num := xs.foldl (fun m x => if cmpZ x m < 0 then x else m) (BitVec.allOnes 128)
  where cmpZ (a b : Num) : Int := if a.toNat < b.toNat then -1 else if a = b then 0 else 1
def sumN (xs : List Num) : Num := if fitN xs then addN xs else BitVec.allOnes 128
def roomN (a : Account) (debit : Bool) : Num := if debit then subN a.cq (sumN [a.dp, a.dq]) else subN a.dq (sumN [a.cp, a.cq])
def withinA (a : Account) : Bool :=
  !(decide (band a.flags 2 ≠ 0) && (!fitN [a.dp, a.dq] || decide (a.cq.toNat < (addN [a.dp, a.dq]).toNat))) && (decide (band a.flags 4 = 0) || (fitN [a.cp, a.cq] && decide ((addN [a.cp, a.cq]).toNat ≤ a.dq.toNat)))
def ruleA (a : Account) : Int :=
  if a.id = 0 then 3 else if bclr a.flags 7 ≠ 0 ∨ (band a.flags 2 ≠ 0 ∧ band a.flags 4 ≠ 0) then 4 else if a.ledger = 0 then 5 else 0
def againA (a old : Account) : Int :=
  if a.ledger ≠ old.ledger then 7 else if bclr a.flags 9 ≠ bclr old.flags 9 then 8 else 14
def oneF (f : Int) (l : List Int) : Bool := decide ((l.filter fun x => band f x ≠ 0).length ≤ 1)
def secondT (t : Transfer) : Bool := decide (band t.flags 12 ≠ 0)
def ruleT (t : Transfer) : Int :=
  if t.id = 0 then 3
  else if t.flags < 0 ∨ t.flags > 255 ∨ oneF t.flags [2, 4, 8] = false ∨ (band t.flags 192 ≠ 0 ∧ band t.flags 2 = 0) ∨ (band t.flags 48 ≠ 0 ∧ secondT t = true) then 4
  else if secondT t ≠ decide (t.pid ≠ 0) ∨ (secondT t = true ∧ t.pid = t.id) then 18
  else if t.timeout ≠ 0 ∧ band t.flags 2 = 0 then 19 else 0
def againT (t old : Transfer) : Int :=
  if bclr t.flags 1 ≠ bclr old.flags 1 then 8 else if t.debit ≠ old.debit then 9 else if t.credit ≠ old.credit then 10 else if t.amount ≠ old.amount then 11
  else if t.pid ≠ old.pid then 12 else if t.timeout ≠ old.timeout then 13 else if t.ledger ≠ old.ledger then 7 else 14
end Go.Proofs.YtpcechnalfaajaaDoor

/- Variables that are laid; SHA-256 as the code has it, in plain Lean. -/
namespace Go.Proofs.YtpcechnalfaajaaDoor
open Go Go.Proofs

/-- From an offset on a row that is there for good reads so. -/
def rda (b o : Nat) (l : List Value) : HProp := fun κ _ => ∃ T pre sp fz, pre.length = o ∧ κ.ro b = some (.cells (pre ++ (l ++ sp)).toArray T fz)
instance RdAt.headRda {b o : Nat} {l : List Value} {t : List HProp} : RdAt b (rda b o l :: t) o l where
  out := fun {κ w} k _ => by
    obtain ⟨g, _, _, h1, h2, _, _, _, ⟨T, pre, sp, fz, hp, hc⟩, _⟩ := k.ex
    exact ⟨T, pre, sp, fz, hp, k.ro _ _ hc⟩
instance Rd.headRda {b : Nat} {l : List Value} {t : List HProp} : Rd b (rda b 0 l :: t) l where
  out := fun {κ w} k _ => by
    obtain ⟨g, _, _, h1, h2, _, _, _, ⟨T, pre, sp, fz, hp, hc⟩, _⟩ := k.ex
    have : pre = [] := List.eq_nil_of_length_eq_zero hp
    subst this
    exact ⟨T, sp, fz, k.ro _ _ hc⟩
theorem Sat.true {κ : Kap} {w : World} {cs : List HProp} (h : Sat κ w cs) {c : HProp} (hc : ∀ g, c κ g) : Sat κ w (c :: cs) :=
  h.imp fun g hg => ⟨fun _ => none, g, fun _ _ e => (by cases e), Sub.refl _, fun _ => .inl rfl, hc _, hg⟩
theorem sepL_sub_tail {κ : Kap} {c : HProp} {cs : List HProp} {g : Hp} (h : sepL κ (c :: cs) g) : sepL κ cs g := by
  obtain ⟨h1, h2, s1, s2, d, hc, hr⟩ := h
  exact sepL_sub hr s2
theorem sepL_erase {κ : Kap} : ∀ (k : Nat) (cs : List HProp) (g : Hp), sepL κ cs g → sepL κ (cs.eraseIdx k) g := by
  intro k
  induction k with
  | zero =>
    intro cs g h
    cases cs with
    | nil => exact h
    | cons c t => exact sepL_sub_tail h
  | succ k ih =>
    intro cs g h
    cases cs with
    | nil => exact h
    | cons c t => exact sepL_tail (fun g h => ih t g h) h
/-- One row less. -/
theorem Sat.dr {κ : Kap} {w : World} {cs : List HProp} (k : Nat) (h : Sat κ w cs) : Sat κ w (cs.eraseIdx k) := h.imp fun g hg => sepL_erase k cs g hg
/-- One row to the front. -/
theorem sepL_front {κ : Kap} : ∀ (k : Nat) (cs : List HProp) (g : Hp) (c : HProp), cs[k]? = some c → sepL κ cs g → sepL κ (c :: cs.eraseIdx k) g := by
  intro k
  induction k with
  | zero =>
    intro cs g c e h
    cases cs with
    | nil => simp at e
    | cons x t => simp at e; subst e; exact h
  | succ k ih =>
    intro cs g c e h
    cases cs with
    | nil => simp at e
    | cons x t => exact sepL_swap (sepL_tail (fun g h => ih t g c (by simpa using e) h) h)
theorem Sat.fr {κ : Kap} {w : World} {cs : List HProp} {c : HProp} (k : Nat) (h : Sat κ w cs) (e : cs[k]? = some c := by rfl) : Sat κ w (c :: cs.eraseIdx k) := h.imp fun g hg => sepL_front k cs g c e hg
/-- The empty slice owns nothing. -/
theorem Sat.nilS {κ : Kap} {w : World} {cs : List HProp} (h : Sat κ w cs) (sz : Nat) (T : TypeId) : Sat κ w (sl sz (.slice none 0 0) (T, []) :: cs) :=
  h.true fun _ => ⟨none, 0, 0, rfl, by simp, Nat.le_refl _, rfl, rfl⟩

section
variable {P : Program} {ops : Array Oper} {Q : Exit → Act → World → Prop} {n : Nd} {κ : Kap} {rest : List Oper} {l : List Oper} {L : List Nat} {W : List (Nat × Nat × List Value)} {fuel : Nat} {done : List Nat} {fr : List (Nat × Value)} {cs : List HProp}
variable {d : Nat} {op : Op} {ty : TypeId} {pos : String} {af : Array Edge} {g : Option (Nat × Bool)} {T U E S : TypeId} {x y z u : Operand} {v : Value}
theorem St.ns (sz : Nat) (T : TypeId) (k : St P ops Q n κ rest fr (sl sz (.slice none 0 0) (T, []) :: cs)) : St P ops Q n κ rest fr cs := fun a w hf hs => k a w hf (hs.nilS sz T)
theorem Sd.ns (sz : Nat) (T : TypeId) (k : Sd P l Q L W n κ fuel done fr (sl sz (.slice none 0 0) (T, []) :: cs)) : Sd P l Q L W n κ fuel done fr cs := fun a w hf hs => k a w hf (hs.nilS sz T)
theorem Co.ns (sz : Nat) (T : TypeId) {c : Code} (k : Co P Q n κ c fr (sl sz (.slice none 0 0) (T, []) :: cs)) : Co P Q n κ c fr cs := fun a w hf hs => k a w hf (hs.nilS sz T)
/-- Where a slice lies that is not empty. -/
theorem St.slp {p : Option Addr} {n0 cap sz : Nat} {x : TypeId × List Value} {F : HProp → List HProp} (hn : 0 < n0) (k : ∀ b, p = some ⟨b, 0, none⟩ → n0 ≤ cap → St P ops Q n κ rest fr cs) (h : Ob (sl sz) (.slice p n0 cap) cs x F := by infer_instance) : St P ops Q n κ rest fr cs := by
  intro a w hf hs
  have hc : n0 ≤ cap := by
    obtain ⟨Fr, hs', _⟩ := Sat.get (o := h) hs
    obtain ⟨g, _, _, h1, h2, _, _, _, ⟨p', n', cap', e, _, hle, hp⟩, _⟩ := hs'.ex
    cases e; omega
  obtain ⟨b, hb⟩ := Sat.slSome (o := h) hs (by omega)
  exact k b hb hc a w hf hs
theorem Co.slp {c : Code} {p : Option Addr} {n0 cap sz : Nat} {x : TypeId × List Value} {F : HProp → List HProp} (hn : 0 < n0) (k : ∀ b, p = some ⟨b, 0, none⟩ → n0 ≤ cap → Co P Q n κ c fr cs) (h : Ob (sl sz) (.slice p n0 cap) cs x F := by infer_instance) : Co P Q n κ c fr cs := by
  intro a w hf hs
  have hc : n0 ≤ cap := by
    obtain ⟨Fr, hs', _⟩ := Sat.get (o := h) hs
    obtain ⟨g, _, _, h1, h2, _, _, _, ⟨p', n', cap', e, _, hle, hp⟩, _⟩ := hs'.ex
    cases e; omega
  obtain ⟨b, hb⟩ := Sat.slSome (o := h) hs (by omega)
  exact k b hb hc a w hf hs
/-- What a slice that owns its row reads as. -/
theorem rdsOf {w : World} {p : Option Addr} {n0 cap sz : Nat} {T : TypeId} {r : List Value} {F : HProp → List HProp} (h : Ob (sl sz) (.slice p n0 cap) cs (T, r) F) (hrd : ∀ b, p = some ⟨b, 0, none⟩ → RdAt b cs 0 r) (hs : Sat κ w cs) : RdS cs p r ∧ n0 ≤ cap := by
  have hc : n0 ≤ cap ∧ r.length = n0 * sz := by
    obtain ⟨Fr, hs', _⟩ := Sat.get (o := h) hs
    obtain ⟨g, _, _, h1, h2, _, _, _, ⟨p', n', cap', e, hl, hle, hp⟩, _⟩ := hs'.ex
    cases e; exact ⟨hle, hl⟩
  refine ⟨?_, hc.1⟩
  by_cases hr : r = []
  · exact .inl hr
  · have : 0 < n0 := by
      rcases Nat.eq_zero_or_pos n0 with h0 | h0
      · have := hc.2; rw [h0, Nat.zero_mul] at this; exact absurd (List.eq_nil_of_length_eq_zero this) hr
      · exact h0
    obtain ⟨b, hb⟩ := Sat.slSome (o := h) hs (by omega)
    exact .inr ⟨b, 0, hb, hrd b hb⟩
theorem St.rds (p : Option Addr) (n0 cap sz : Nat) {T : TypeId} {r : List Value} {F : HProp → List HProp} (k : RdS cs p r → n0 ≤ cap → St P ops Q n κ rest fr cs) (h : Ob (sl sz) (.slice p n0 cap) cs (T, r) F := by infer_instance)
    (hrd : ∀ b, p = some ⟨b, 0, none⟩ → RdAt b cs 0 r := by intro b hb; first | (subst hb; infer_instance) | (rw [hb]; infer_instance)) : St P ops Q n κ rest fr cs := fun a w hf hs => let ⟨h1, h2⟩ := rdsOf h hrd hs; k h1 h2 a w hf hs
theorem Sd.rds (p : Option Addr) (n0 cap sz : Nat) {T : TypeId} {r : List Value} {F : HProp → List HProp} (k : RdS cs p r → n0 ≤ cap → Sd P l Q L W n κ fuel done fr cs) (h : Ob (sl sz) (.slice p n0 cap) cs (T, r) F := by infer_instance)
    (hrd : ∀ b, p = some ⟨b, 0, none⟩ → RdAt b cs 0 r := by intro b hb; first | (subst hb; infer_instance) | (rw [hb]; infer_instance)) : Sd P l Q L W n κ fuel done fr cs := fun a w hf hs => let ⟨h1, h2⟩ := rdsOf h hrd hs; k h1 h2 a w hf hs
theorem Co.rds (p : Option Addr) (n0 cap sz : Nat) {c : Code} {T : TypeId} {r : List Value} {F : HProp → List HProp} (k : RdS cs p r → n0 ≤ cap → Co P Q n κ c fr cs) (h : Ob (sl sz) (.slice p n0 cap) cs (T, r) F := by infer_instance)
    (hrd : ∀ b, p = some ⟨b, 0, none⟩ → RdAt b cs 0 r := by intro b hb; first | (subst hb; infer_instance) | (rw [hb]; infer_instance)) : Co P Q n κ c fr cs := fun a w hf hs => let ⟨h1, h2⟩ := rdsOf h hrd hs; k h1 h2 a w hf hs
/-- A store, what it gives being told. -/
theorem St.sx {b o m : Nat} {agg : Bool} {r r' : List Value} {F : List Value → List HProp} (hl : putN r o (vc v) = some r') (k : St P ops Q n κ rest fr (F r'))
    (h : ev fr x = some (.pointer (some ⟨b, o, none⟩)) ∧ ev fr y = some v ∧ Wr b cs r F ∧ Ty P T agg m ∧ ((vc v).length = m ∧ Nat.blt 0 m = true) ∧ one (vc v) = true := by
      refine ⟨rfl, rfl, ?_, ?_, ⟨?_, ?_⟩, ?_⟩; infer_instance; infer_instance; rfl; rfl; rfl) (hw : wantedF ops fr g true = true := by rfl) :
    St P ops Q n κ (⟨none, .store T x y, ty, pos, af, g⟩ :: rest) fr cs :=
  have := h.2.2.1; have := h.2.2.2.1
  .n0 (.store h.1 h.2.1 h.2.2.2.2.1 h.2.2.2.2.2 hl) (fun _ _ hK => by rw [hK.2]; exact k) hw
theorem Sd.sx {b0 o m : Nat} {agg : Bool} {r r' : List Value} {F : List Value → List HProp} (i : Nat) (hl : putN r o (vc v) = some r') (kk : Sd P l Q L W n κ fuel (i :: done) fr (F r')) (hi : getO l i = some ⟨none, .store T x y, ty, pos, af, g⟩ := by rfl)
    (h : ev fr x = some (.pointer (some ⟨b0, o, none⟩)) ∧ ev fr y = some v ∧ Wr b0 cs r F ∧ Ty P T agg m ∧ ((vc v).length = m ∧ Nat.blt 0 m = true) ∧ one (vc v) = true := by
      refine ⟨rfl, rfl, ?_, ?_, ⟨?_, ?_⟩, ?_⟩; infer_instance; infer_instance; rfl; rfl; rfl)
    (hW : memb i L = true ∨ WOk (F r') W := by first | exact .inl rfl | (right; infer_instance))
    (hw : wantedF l.toArray fr g true = true := by rfl) (hr : Region.ready .any l.toArray (listedBy l.length done) = [i] := by kernel_rfl) : Sd P l Q L W n κ (fuel + 1) done fr cs :=
  have := h.2.2.1; have := h.2.2.2.1
  .nn i (fr' := fun _ => fr) hi hr hw (.store h.1 h.2.1 h.2.2.2.2.1 h.2.2.2.2.2 hl) (fun _ _ hf => hf)
    (fun _ _ hK κ w hs hl => by rw [hK.2] at hs; rcases hW with hW | hW; · rw [hW] at hl; cases hl
                                · exact hW.out hs) (fun _ _ hK => by rw [hK.2]; exact kk)
/-- An array that is built. -/
theorem OpQ.buildA {dst : Option Nat} {T E : TypeId} {len m : Nat} {xs : List (Nat × Operand)} {vs : List (Nat × Value)} {z r : List Value} [hz : Zr P T z] [hb : Ar P T len E m]
    (hx : evp fr xs = some vs) (hr : bld z ((List.range len).map fun i => (i * m, m)) vs = some r) : OpQ P n ⟨dst, .build T xs.toArray, ty, pos, af, g⟩ fr (.agg r.toArray) := by
  intro a w ha
  obtain ⟨v0, hv0, hc⟩ := hz.run w
  have hf := fill_bld (place := fun i => some (i * m, m)) (fun i q h => by
    rcases Nat.lt_or_ge i len with h2 | h2
    · simp [h2] at h; simp [h]
    · rw [List.getElem?_eq_none (by simpa using h2)] at h; cases h) vs z r hr
  have hm := evp_map ha hx
  have e : (xs.toArray.map fun (i, x) => (i, a.eval x)).toList = vs := by simpa using hm
  simp only [execOp, Instr.build, Sem.run_bind, hv0, Result.andThen_ok, hb.und, hb.size, hc]
  rw [e, hf]; rfl
theorem St.bda {T E : TypeId} {len m : Nat} {xs : List (Nat × Operand)} {vs : List (Nat × Value)} {z r : List Value} (k : St P ops Q n κ rest ((d, .agg r.toArray) :: fr) cs)
    (h : Zr P T z ∧ Ar P T len E m ∧ evp fr xs = some vs ∧ bld z ((List.range len).map fun i => (i * m, m)) vs = some r := by refine ⟨?_, ?_, ?_, ?_⟩; infer_instance; infer_instance; rfl; rfl)
    (hd : Nat.blt d n.n = true := by rfl) (hw : wantedF ops fr g true = true := by rfl) : St P ops Q n κ (⟨some d, .build T xs.toArray, ty, pos, af, g⟩ :: rest) fr cs :=
  .q (have := h.1; have := h.2.1; .buildA h.2.2.1 h.2.2.2) k hd hw
theorem takeF_whole : ∀ (l : List Value), takeF l.length l = some l := by
  intro l; induction l with
  | nil => rfl
  | cons x t ih => simp [takeF, ih]
theorem getV_whole {l : List Value} {m : Nat} (h : l.length = m) : getV true l 0 m = some (.agg l.toArray) := by
  subst h
  simp only [getV, cond_true]
  cases l with
  | nil => rfl
  | cons x t => simp only [getN, takeF_whole]
/-- A result that is a whole row. -/
theorem Rv.cw {t m b : Nat} {T : TypeId} {l : List Value}
    (h : look fr t = some (.pointer (some ⟨b, 0, none⟩)) ∧ Rd b cs l ∧ Ty P T true m ∧ Nat.blt 0 m = true ∧ l.length = m := by refine ⟨rfl, ?_, ?_, ?_, ?_⟩; infer_instance; infer_instance; rfl; (first | rfl | simp)) : Rv P n κ fr cs (.cell t T) (.agg l.toArray) :=
  .c ⟨h.1, h.2.1, h.2.2.1, h.2.2.2.1, getV_whole h.2.2.2.2⟩
theorem Co.r1w {fn : Func} {R : Ending → World → Prop} {t m b : Nat} {T : TypeId} {l : List Value} (k : ∀ w, Sat κ w cs → R (.returned (.agg l.toArray)) w)
    (h : RetTo .ret Q (bodyPost P fn R .ret) ∧ fn.results = #[.cell t T] ∧ look fr t = some (.pointer (some ⟨b, 0, none⟩)) ∧ Rd b cs l ∧ Ty P T true m ∧ Nat.blt 0 m = true ∧ l.length = m := by
      refine ⟨?_, ?_, ?_, ?_, ?_, ?_, ?_⟩; infer_instance; rfl; rfl; infer_instance; infer_instance; rfl; (first | (simp [vc]; done) | rfl)) (hn : n.ds = [] := by rfl) : Co P Q n κ .ret fr cs :=
  .ret fun a w hf hs => h.1.out a w (ret1 (.inl rfl) h.2.1 hf hs (.cw ⟨h.2.2.1, h.2.2.2.1, h.2.2.2.2.1, h.2.2.2.2.2.1, h.2.2.2.2.2.2⟩) (k w hs) hn)
/-- A store that fills a whole row. -/
theorem Sd.stw {T : TypeId} {b0 m : Nat} {agg : Bool} {r : List Value} {F : List Value → List HProp} (i : Nat) (kk : Sd P l Q L W n κ fuel (i :: done) fr (F (vc v))) (hi : getO l i = some ⟨none, .store T x y, ty, pos, af, g⟩ := by rfl)
    (h : ev fr x = some (.pointer (some ⟨b0, 0, none⟩)) ∧ ev fr y = some v ∧ Wr b0 cs r F ∧ Ty P T agg m ∧ ((vc v).length = m ∧ Nat.blt 0 m = true) ∧ one (vc v) = true ∧ r.length = m := by
      refine ⟨rfl, rfl, ?_, ?_, ⟨?_, ?_⟩, ?_, ?_⟩; infer_instance; infer_instance; (first | (simp [vc]; done) | rfl); rfl; (first | (simp [vc]; done) | rfl); (first | (simp [vc]; done) | rfl))
    (hW : memb i L = true ∨ WOk (F (vc v)) W := by first | exact .inl rfl | (right; infer_instance))
    (hw : wantedF l.toArray fr g true = true := by rfl) (hr : Region.ready .any l.toArray (listedBy l.length done) = [i] := by kernel_rfl) : Sd P l Q L W n κ (fuel + 1) done fr cs :=
  have := h.2.2.1; have := h.2.2.2.1
  .nn i (fr' := fun _ => fr) hi hr hw (.store h.1 h.2.1 h.2.2.2.2.1 h.2.2.2.2.2.1 (putN_all _ _ (by rw [h.2.2.2.2.2.2, h.2.2.2.2.1.1]))) (fun _ _ hf => hf)
    (fun _ _ hK κ w hs hl => by rw [hK.2] at hs; rcases hW with hW | hW; · rw [hW] at hl; cases hl
                                · exact hW.out hs) (fun _ _ hK => by rw [hK.2]; exact kk)
/-- A whole array as a slice. -/
theorem OpQ.slw {dst : Option Nat} {T E : TypeId} {len m b o : Nat} [h : Ar P T len E m] (hx : ev fr x = some (.pointer (some ⟨b, o, none⟩))) (h0 : Nat.blt 0 len = true) : OpQ P n ⟨dst, .slice T x none none none, ty, pos, af, g⟩ fr (.slice (some ⟨b, o, none⟩) len len) := by
  intro s w hf
  have hpos : 0 < len := Nat.blt_eq.mp h0
  have e : (Instr.sliceBounds false len len none none none).run P w = .ok (0, len, len) w := by simp [Instr.sliceBounds]
  simp only [execOp, Instr.sliceAt, hf.eval hx, Instr.sureAddr, Sem.run_bind, Sem.run_pure, h.und, Result.andThen_ok, Option.map_none, e, h.size]
  rw [if_neg (by omega), Nat.zero_mul]
  have : (⟨b, o, none⟩ : Addr).add 0 = ⟨b, o, none⟩ := by unfold Addr.add; split <;> simp_all
  rw [this]; rfl
theorem St.slw {T E : TypeId} {len m b o : Nat} (k : St P ops Q n κ rest ((d, .slice (some ⟨b, o, none⟩) len len) :: fr) cs) (h : Ar P T len E m ∧ ev fr x = some (.pointer (some ⟨b, o, none⟩)) ∧ Nat.blt 0 len = true := by refine ⟨?_, rfl, ?_⟩; infer_instance; rfl)
    (hd : Nat.blt d n.n = true := by rfl) (hw : wantedF ops fr g true = true := by rfl) : St P ops Q n κ (⟨some d, .slice T x none none none, ty, pos, af, g⟩ :: rest) fr cs := .q (have := h.1; .slw h.2.1 h.2.2) k hd hw
theorem Sd.slw {T E : TypeId} {len m b o : Nat} (i : Nat) (kk : Sd P l Q L W n κ fuel (i :: done) ((d, .slice (some ⟨b, o, none⟩) len len) :: fr) cs) (hi : getO l i = some ⟨some d, .slice T x none none none, ty, pos, af, g⟩ := by rfl)
    (h : Ar P T len E m ∧ ev fr x = some (.pointer (some ⟨b, o, none⟩)) ∧ Nat.blt 0 len = true := by refine ⟨?_, rfl, ?_⟩; infer_instance; rfl)
    (hd : Nat.blt d n.n = true := by rfl) (hw : wantedF l.toArray fr g true = true := by rfl) (hchk : chkQ l done i = true := by kernel_rfl) : Sd P l Q L W n κ (fuel + 1) done fr cs := .q i hi (have := h.1; .slw h.2.1 h.2.2) kk hd hw hchk
/-- A scope with one label, to which jumps lead back. -/
theorem Co.scope {pre tail : Code} {ι : Type} {lb : Nat} (I : ι → List (Nat × Value)) (C : ι → List HProp) (p : ι → Prop) (μ : ι → Nat)
    (first : Co P (Exit.then (fun a w => ∃ i, p i ∧ Fr n a (I i) ∧ Sat κ w (C i)) Q) n κ pre fr cs)
    (pass : ∀ i, p i → Co P (Exit.jump lb (fun a w => ∃ j, p j ∧ μ j < μ i ∧ Fr n a (I j) ∧ Sat κ w (C j)) Q) n κ tail (I i) (C i))
    (hf : findLabel (.seq pre (.seq (.label lb) tail)) lb = some (.seq .skip tail) := by rfl)
    (hQ : ∀ l a w, ¬ Q (.goto l) a w := by exact fun _ _ _ h => h) : Co P Q n κ (.scope (.seq pre (.seq (.label lb) tail))) fr cs := by
  intro a w hfr hs b k css
  generalize hB : Code.seq pre (.seq (.label lb) tail) = B at *
  have hg : gotoIn lb (.inScope B :: k) = some (.code (.seq .skip tail) :: .inScope B :: k) := by simp [gotoIn, hf]
  have key : ∀ m (i : ι) a w (x : Code), (x = .skip ∨ x = .label lb) → μ i = m → p i → Fr n a (I i) → Sat κ w (C i) → ∃ e a' w', Q e a' w' ∧ Arrives P (lone (b.at a (.code (.seq x tail) :: .inScope B :: k)) css w) b k css e a' w' := by
    intro m
    induction m using Nat.strongRecOn with
    | _ m ih =>
      intro i a w x hx hm hp hfr hs
      have hwp : (Code.seq x tail).wp P (Exit.jump lb (fun a w => ∃ j, p j ∧ μ j < μ i ∧ Fr n a (I j) ∧ Sat κ w (C j)) Q) a w := by
        refine wp_seq ?_
        rcases hx with rfl | rfl
        · exact wp_skip (pass i hp a w hfr hs)
        · exact wp_label (pass i hp a w hfr hs)
      obtain ⟨e, a₁, w₁, hq, harr⟩ := hwp b (.inScope B :: k) css
      cases e with
      | normal => exact ⟨.normal, a₁, w₁, hq, Steps.trans harr (.one step_inScope)⟩
      | exit id => exact ⟨.exit id, a₁, w₁, hq, fun k' hk => harr k' (by simp [exitTo, hk])⟩
      | goto l' =>
        obtain ⟨rfl, j, hp', hlt, hf', hs'⟩ := hq
        obtain ⟨e₂, a₂, w₂, hq₂, harr₂⟩ := ih _ (by omega) j a₁ w₁ .skip (.inl rfl) rfl hp' hf' hs'
        exact ⟨e₂, a₂, w₂, hq₂, .of_steps (harr _ hg) harr₂⟩
      | ret => exact ⟨_, a₁, w₁, hq, harr⟩
      | panic ch => exact ⟨_, a₁, w₁, hq, harr⟩
      | outgrown => exact ⟨_, a₁, w₁, hq, harr⟩
  obtain ⟨e, a₁, w₁, hq, harr⟩ := first a w hfr hs b (.code (.seq (.label lb) tail) :: .inScope B :: k) css
  have h0 : Steps P (lone (b.at a (.code (.scope B) :: k)) css w) (lone (b.at a (.code pre :: .code (.seq (.label lb) tail) :: .inScope B :: k)) css w) := by
    subst hB; exact .head step_scope (.one step_seq)
  cases e with
  | normal =>
    obtain ⟨i, hp, hf', hs'⟩ := hq
    obtain ⟨e₂, a₂, w₂, hq₂, harr₂⟩ := key _ i a₁ w₁ (.label lb) (.inr rfl) rfl hp hf' hs'
    exact ⟨e₂, a₂, w₂, hq₂, .of_steps (Steps.trans h0 harr) harr₂⟩
  | exit id => exact ⟨.exit id, a₁, w₁, hq, fun k' hk => Steps.trans h0 (harr k' (by simp [exitTo, hk]))⟩
  | goto l' => exact absurd hq (hQ l' a₁ w₁)
  | ret => exact ⟨_, a₁, w₁, hq, .of_steps h0 harr⟩
  | panic ch => exact ⟨_, a₁, w₁, hq, .of_steps h0 harr⟩
  | outgrown => exact ⟨_, a₁, w₁, hq, .of_steps h0 harr⟩
theorem Co.label {lb : Nat} {y : Code} {Q' : Exit → Act → World → Prop} (k : Co P Q' n κ y fr cs) (hq : ∀ a w, y.wp P Q' a w → Q .normal a w := by exact fun _ _ h => h) : Co P Q n κ (.label lb) fr cs :=
  fun a w hf hs => wp_label (hq a w (k a w hf hs))
theorem Co.goto {lb : Nat} (k : ∀ a w, Fr n a fr → Sat κ w cs → Q (.goto lb) a w) : Co P Q n κ (.goto lb) fr cs := fun a w hf hs => wp_goto (k a w hf hs)
instance {lb : Nat} {J : Act → World → Prop} {Q : Exit → Act → World → Prop} {Q0 : Act → World → Prop} [h : RetTo .ret Q Q0] : RetTo .ret (Exit.jump lb J Q) Q0 := ⟨fun a w k => h.out a w k⟩
theorem mul_in {a b : Int} (h : -9223372036854775808 ≤ a * b ∧ a * b ≤ 9223372036854775807) : mulK .i64 a b = a * b := wrap_in h
/-- A product that stays within 64 bits. -/
theorem St.mu {a b : Int} (k : St P ops Q n κ rest ((d, .int .i64 (a * b)) :: fr) cs) (h : ev fr x = some (.int .i64 a) ∧ ev fr y = some (.int .i64 b) := by exact ⟨rfl, rfl⟩)
    (hr : -9223372036854775808 ≤ a * b ∧ a * b ≤ 9223372036854775807 := by omega) (hd : Nat.blt d n.n = true := by rfl) (hw : wantedF ops fr g true = true := by rfl) :
    St P ops Q n κ (⟨some d, .binOp .mul T x y U, ty, pos, af, g⟩ :: rest) fr cs := by
  refine .q (.mul h.1 h.2) ?_ hd hw; rw [wrap_in hr]; exact k
end
theorem RdAt.drop {b o : Nat} {cs : List HProp} {l : List Value} (h : RdAt b cs o l) (k : Nat) (hk : k ≤ l.length) : RdAt b cs (o + k) (l.drop k) where
  out := fun {κ w} hs hl => by
    have hne : l ≠ [] := fun e => by subst e; simp at hl
    obtain ⟨T, pre, sp, fz, hp, hb⟩ := h.out hs hne
    exact ⟨T, pre ++ l.take k, sp, fz, by simp [hp]; omega, by rw [hb, List.append_assoc, ← List.append_assoc (l.take k), List.take_append_drop]⟩
theorem RdAt.take {b o : Nat} {cs : List HProp} {l : List Value} (h : RdAt b cs o l) (k : Nat) : RdAt b cs o (l.take k) where
  out := fun {κ w} hs hl => by
    have hne : l ≠ [] := fun e => by subst e; simp at hl
    obtain ⟨T, pre, sp, fz, hp, hb⟩ := h.out hs hne
    exact ⟨T, pre, l.drop k ++ sp, fz, hp, by rw [hb, ← List.append_assoc (l.take k), List.take_append_drop]⟩
theorem Addr.add_plain (b o k : Nat) : (⟨b, o, none⟩ : Addr).add k = ⟨b, o + k, none⟩ := by unfold Addr.add; split <;> simp_all

@[simp] theorem vc_agg (l : List Value) : vc (.agg l.toArray) = l := rfl
/- Cells of numbers, one each. -/
def cells (k : IntKind) (l : List Int) : List Value := l.map fun z => .int k z
@[simp] theorem cells_len (k : IntKind) (l : List Int) : (cells k l).length = l.length := by simp [cells]
@[simp] theorem cells_one (k : IntKind) (l : List Int) : one (cells k l) = true := by
  induction l with
  | nil => rfl
  | cons x t ih => simpa [cells, one, one1] using ih
theorem cells_get (k : IntKind) (l : List Int) (i : Nat) (h : i < l.length) : getV false (cells k l) i 1 = some (.int k (l.getD i 0)) := by
  simp [getV, get1_eq, cells, h]
theorem putN_one (l : List Value) (i : Nat) (v : Value) (h : i < l.length) (hv : vc v = [v]) : putN l i (vc v) = some (l.set i v) := by
  rw [hv]
  simp only [putN]
  have : ∀ (l : List Value) i, i < l.length → put1 l i v = some (l.set i v) := by
    intro l
    induction l with
    | nil => intro i h; simp at h
    | cons x t ih => intro i h; cases i with
      | zero => rfl
      | succ i => simp only [put1, ih i (by simpa using h), List.set]
  rw [this l i h]
theorem cells_put (k : IntKind) (l : List Int) (i : Nat) (z : Int) (h : i < l.length) : putN (cells k l) i (vc (.int k z)) = some (cells k (l.set i z)) := by
  rw [putN_one _ _ _ (by simpa using h) rfl]
  simp [cells, List.map_set]
/-- Bytes. -/
def bv (l : List UInt8) : List Value := l.map fun c => .int .u8 (c.toNat : Int)
@[simp] theorem bv_len (l : List UInt8) : (bv l).length = l.length := by simp [bv]
@[simp] theorem bv_one (l : List UInt8) : one (bv l) = true := one_map l
@[simp] theorem bv_app (l r : List UInt8) : bv l ++ bv r = bv (l ++ r) := by simp [bv]
theorem bv_get (l : List UInt8) (i : Nat) (h : i < l.length) : getV false (bv l) i 1 = some (.int .u8 ((l.getD i 0).toNat : Int)) := by
  simp [getV, get1_eq, bv, h]
def toB (z : Int) : UInt8 := UInt8.ofNat (IntKind.u8.wrap z).toNat
theorem u8_range (z : Int) : 0 ≤ IntKind.u8.wrap z ∧ IntKind.u8.wrap z < 256 := by
  have e : (2 : Int) ^ (8 : Nat) = 256 := by decide
  simp only [IntKind.wrap, IntKind.bits, IntKind.signed, Bool.false_and, e]
  simp
  omega
theorem toB_val (z : Int) : ((toB z).toNat : Int) = IntKind.u8.wrap z := by
  have := u8_range z
  simp only [toB, UInt8.toNat_ofNat']
  omega
theorem u8_byte (z : Int) : Value.int .u8 (IntKind.u8.wrap z) = .int .u8 ((toB z).toNat : Int) := by rw [toB_val]

/- SHA-256, as the code reckons it. -/
def turnI (x n : Int) : Int := borK .u32 (shrK .u32 x n) (shlK .u32 x (32 - n))
def foldB (x : Int) (cs : List UInt8) : Int := cs.foldl (fun a c => borK .u32 (shlK .u32 a 8) (IntKind.u32.wrap (c.toNat : Int))) x
def W1 (b : List UInt8) : Nat → List Int
  | 0 => List.replicate 64 0
  | i + 1 => (W1 b i).set i (foldB ((W1 b i).getD i 0) ((b.drop (4 * i)).take 4))
def valW (w : List Int) (i : Nat) : Int :=
  addK .u32 (addK .u32 (addK .u32 (w.getD (i - 16) 0) (bxorK .u32 (bxorK .u32 (turnI (w.getD (i - 15) 0) 7) (turnI (w.getD (i - 15) 0) 18)) (shrK .u32 (w.getD (i - 15) 0) 3))) (w.getD (i - 7) 0))
    (bxorK .u32 (bxorK .u32 (turnI (w.getD (i - 2) 0) 17) (turnI (w.getD (i - 2) 0) 19)) (shrK .u32 (w.getD (i - 2) 0) 10))
def W2 (w : List Int) : Nat → List Int
  | 0 => w
  | k + 1 => (W2 w k).set (16 + k) (valW (W2 w k) (16 + k))
structure S8 where
  a : Int
  b : Int
  c : Int
  d : Int
  e : Int
  f : Int
  g : Int
  h : Int
def S8.l (s : S8) : List Int := [s.a, s.b, s.c, s.d, s.e, s.f, s.g, s.h]
def t3 (r w : Int) (s : S8) : Int :=
  addK .u32 (addK .u32 (addK .u32 (addK .u32 s.h (bxorK .u32 (bxorK .u32 (turnI s.e 6) (turnI s.e 11)) (turnI s.e 25))) (bxorK .u32 (bandK .u32 s.e s.f) (bandK .u32 (cplK .u32 s.e) s.g))) r) w
def u3 (s : S8) : Int :=
  addK .u32 (bxorK .u32 (bxorK .u32 (turnI s.a 2) (turnI s.a 13)) (turnI s.a 22)) (bxorK .u32 (bxorK .u32 (bandK .u32 s.a s.b) (bandK .u32 s.a s.c)) (bandK .u32 s.b s.c))
def S3 (rs w : List Int) (s : S8) : Nat → S8
  | 0 => s
  | i + 1 => let s := S3 rs w s i; let t := t3 (rs.getD i 0) (w.getD i 0) s; ⟨addK .u32 t (u3 s), s.a, s.b, s.c, addK .u32 s.d t, s.e, s.f, s.g⟩
def H4 (s : List Int) (h : List Int) : Nat → List Int
  | 0 => h
  | i + 1 => (H4 s h i).set i (addK .u32 ((H4 s h i).getD i 0) (s.getD i 0))
def s8 (l : List Int) : S8 := ⟨l.getD 0 0, l.getD 1 0, l.getD 2 0, l.getD 3 0, l.getD 4 0, l.getD 5 0, l.getD 6 0, l.getD 7 0⟩
def roundsI : List Int := [1116352408, 1899447441, 3049323471, 3921009573, 961987163, 1508970993, 2453635748, 2870763221, 3624381080, 310598401, 607225278, 1426881987, 1925078388, 2162078206, 2614888103, 3248222580, 3835390401, 4022224774, 264347078, 604807628, 770255983, 1249150122, 1555081692, 1996064986, 2554220882, 2821834349, 2952996808, 3210313671, 3336571891, 3584528711, 113926993, 338241895, 666307205, 773529912, 1294757372, 1396182291, 1695183700, 1986661051, 2177026350, 2456956037, 2730485921, 2820302411, 3259730800, 3345764771, 3516065817, 3600352804, 4094571909, 275423344, 430227734, 506948616, 659060556, 883997877, 958139571, 1322822218, 1537002063, 1747873779, 1955562222, 2024104815, 2227730452, 2361852424, 2428436474, 2756734187, 3204031479, 3329325298]
def startI : List Int := [1779033703, 3144134277, 1013904242, 2773480762, 1359893119, 2600822924, 528734635, 1541459225]
def blockH (h : List Int) (b : List UInt8) : List Int := H4 (S3 roundsI (W2 (W1 b 16) 48) (s8 h) 64).l h 8
@[simp] theorem W1_len (b : List UInt8) (i : Nat) : (W1 b i).length = 64 := by
  induction i with
  | zero => simp [W1]
  | succ i ih => simp [W1, ih]
@[simp] theorem W2_len (w : List Int) (k : Nat) : (W2 w k).length = w.length := by
  induction k with
  | zero => rfl
  | succ i ih => simp [W2, ih]
@[simp] theorem H4_len (s h : List Int) (k : Nat) : (H4 s h k).length = h.length := by
  induction k with
  | zero => rfl
  | succ i ih => simp [H4, ih]
@[simp] theorem blockH_len (h : List Int) (b : List UInt8) : (blockH h b).length = h.length := by simp [blockH]
/- The whole of it. -/
def padB (l : List UInt8) : List UInt8 := l ++ [128] ++ List.replicate ((119 - l.length % 64) % 64) 0
def tailB (n : Int) : Nat → List UInt8
  | 0 => []
  | k + 1 => tailB n k ++ [toB (shrK .u64 n (8 * (7 - (k : Int))))]
def msgB (l : List UInt8) : List UInt8 := padB l ++ tailB (mulK .u64 (IntKind.u64.wrap (l.length : Int)) 8) 8
def blocksH (b : List UInt8) : Nat → List Int
  | 0 => startI
  | k + 1 => blockH (blocksH b k) ((b.drop (64 * k)).take 64)
def outB (h : List Int) : Nat → List UInt8
  | 0 => []
  | k + 1 => outB h k ++ [toB (shrK .u32 (h.getD (k / 4) 0) (24 - 8 * ((k % 4 : Nat) : Int)))]
@[simp] theorem outB_len (h : List Int) (k : Nat) : (outB h k).length = k := by
  induction k with
  | zero => rfl
  | succ k ih => simp [outB, ih]
@[simp] theorem tailB_len (h : Int) (k : Nat) : (tailB h k).length = k := by
  induction k with
  | zero => rfl
  | succ k ih => simp [tailB, ih]
@[simp] theorem blocksH_len (b : List UInt8) (k : Nat) : (blocksH b k).length = 8 := by
  induction k with
  | zero => rfl
  | succ k ih => simp [blocksH, ih]
def sha (l : List UInt8) : Hash := ⟨outB (blocksH (msgB l) ((msgB l).length / 64)) 32, by simp⟩
/- Roots of lists of hashes. -/
def spl (n k : Nat) : Nat := if h : 0 < k ∧ 2 * k < n then spl n (2 * k) else k
  termination_by n - k
def splitN (n : Nat) : Nat := spl n 1
theorem spl_bound (n k : Nat) : 0 < k → k < n → 0 < spl n k ∧ spl n k < n := by
  fun_induction spl n k with
  | case1 k h ih => intro _ _; exact ih (by omega) h.2
  | case2 k h => intro h0 hk; exact ⟨h0, hk⟩
theorem splitN_bound (n : Nat) (h : 2 ≤ n) : 0 < splitN n ∧ splitN n < n := spl_bound n 1 (by omega) (by omega)
def leafN (b : List UInt8) : Hash := sha ([0] ++ b)
def nodeN (a b : Hash) : Hash := sha ([1] ++ a.l ++ b.l)
def rootN (l : List Hash) : Hash :=
  if h0 : l.length = 0 then sha [] else if h1 : l.length = 1 then l[0] else nodeN (rootN (l.take (splitN l.length))) (rootN (l.drop (splitN l.length)))
  termination_by l.length
  decreasing_by
  · have := splitN_bound l.length (by omega); simp; omega
  · have := splitN_bound l.length (by omega); simp; omega
theorem rootN_nil : rootN [] = sha [] := by rw [rootN]; exact dif_pos rfl
theorem rootN_one (h : Hash) : rootN [h] = h := by
  have h0 : ¬ [h].length = 0 := by simp
  have h1 : [h].length = 1 := rfl
  conv => lhs; rw [rootN]
  simp only [h1, dite_true]; rfl
theorem rootN_two (l : List Hash) (h : 2 ≤ l.length) : rootN l = nodeN (rootN (l.take (splitN l.length))) (rootN (l.drop (splitN l.length))) := by
  have h0 : ¬ l.length = 0 := by omega
  have h1 : ¬ l.length = 1 := by omega
  conv => lhs; rw [rootN]
  simp only [h0, h1, dite_false]
/-- What is laid reads as it should. -/
structure Laid (κ : Kap) : Prop where
  rounds : ∀ g, rda 3 0 (cells .u32 roundsI) κ g
  start : ∀ g, rda 2 0 (cells .u32 startI) κ g
  leaf : ∃ b o cap, 1 ≤ cap ∧ (∀ g, rda 0 0 [.slice (some ⟨b, o, none⟩) 1 cap] κ g) ∧ ∀ g, rda b o (bv [0]) κ g
  node : ∃ b o cap, 1 ≤ cap ∧ (∀ g, rda 1 0 [.slice (some ⟨b, o, none⟩) 1 cap] κ g) ∧ ∀ g, rda b o (bv [1]) κ g
end Go.Proofs.YtpcechnalfaajaaDoor

/- make of a slice; builtins min and max. -/
namespace Go.Proofs.YtpcechnalfaajaaDoor
open Go Go.Proofs
section
variable {P : Program} {ops : Array Oper} {Q : Exit → Act → World → Prop} {n : Nd} {κ : Kap} {rest : List Oper} {l : List Oper} {L : List Nat} {W : List (Nat × Nat × List Value)} {fuel : Nat} {done : List Nat} {fr : List (Nat × Value)} {cs : List HProp}
variable {dst : Option Nat} {d : Nat} {op : Op} {ty : TypeId} {pos : String} {af : Array Edge} {g : Option (Nat × Bool)} {T U E S : TypeId} {x y z u : Operand} {v : Value}
theorem reps_app (a b : Nat) (z : List Value) : reps (a + b) z = reps a z ++ reps b z := by
  induction a with
  | zero => simp [reps]
  | succ a ih => rw [Nat.succ_add]; simp only [reps, ih, List.append_assoc]
theorem OpN.makeSlice {m by_ : Nat} {x y : Operand} {k j : IntKind} {a c : Nat} {z : List Value} [hs : Sl P T E m by_] [hz : Zr P E z] (hx : ev fr x = some (.int k a)) (hy : ev fr y = some (.int j c)) (hzl : z.length = m ∧ Nat.blt 0 m = true)
    (hac : a ≤ c) (hb : by_ * c ≤ 281474976710656) (hc : c ≤ 9223372036854775807) :
    OpN P n κ ⟨dst, .makeSlice T x y, ty, pos, af, g⟩ fr cs (fun v cs' => ∃ b, v = .slice (some ⟨b, 0, none⟩) a c ∧ cs' = sl m (.slice (some ⟨b, 0, none⟩) a c) (E, reps a z) :: cs) := by
  intro s w next Q ha hst hn
  obtain ⟨v0, hv0, hvc⟩ := hz.run w
  obtain ⟨i, hi, hby⟩ := hs.info w
  have wl : IntKind.i64.wrap (a : Int) = a := by rw [IntKind.wrap_i64]; omega
  have wc : IntKind.i64.wrap (c : Int) = c := by rw [IntKind.wrap_i64]; omega
  have h0 : 0 < m := Nat.blt_eq.mp hzl.2
  have hzne : z ≠ [] := fun k => by rw [k] at hzl; simp at hzl; omega
  have hrow : (execOp s.eval ⟨dst, .makeSlice T x y, ty, pos, af, g⟩).run P w = .ok (.value (.slice (some ⟨w.heap.size, 0, none⟩) a c)) { w with heap := w.heap.push (.cells (reps c z).toArray E (0, 0)) } := by
    have hb' : ((i.bytes : Nat) : Int) * (c : Int) ≤ 281474976710656 := by
      have h : ((by_ * c : Nat) : Int) ≤ 281474976710656 := by omega
      rw [hby]; rwa [Int.natCast_mul] at h
    have n1 : ¬ (c : Int) < 0 := by omega
    have n2 : ¬ (281474976710656 < (i.bytes : Int) * (c : Int)) := by omega
    have n3 : ¬ (a : Int) < 0 := by omega
    have n4 : ¬ (c : Int) < (a : Int) := by omega
    have hzl' := hzl.1
    subst hzl'
    have hzz := range_mod z hzne c
    by_cases hc0 : c = 0
    · have hce : c * z.length = 0 := by rw [hc0, Nat.zero_mul]
      have hr0 : reps c z = [] := by rw [hc0]; rfl
      simp [execOp, Instr.makeSlice, ha.eval hx, ha.eval hy, hs.und, hi, asInt, asIntOf, wl, wc, n1, n2, n3, n4, hs.size, newRow, newObj, Sem.run, hce, hr0, Array.range_zero']
    · have hne : ¬ (c * z.length = 0) := by
        intro h; rcases Nat.mul_eq_zero.1 h with h | h
        · exact hc0 h
        · omega
      have hzz' : Array.map (fun x => v0.cells[x % v0.cells.size]!) (Array.range (c * z.length)) = (reps c z).toArray := by rw [hvc]; exact hzz
      simp [execOp, Instr.makeSlice, ha.eval hx, ha.eval hy, hs.und, hi, asInt, asIntOf, wl, wc, n1, n2, n3, n4, hs.size, newRow, newObj, Sem.run, hne, hv0, hzz']
  simp only [Oper.wpY, hrow, Oper.upY, Oper.upon]
  refine hn _ _ _ ⟨_, rfl, rfl⟩ ?_
  have hs2 := hst.pts_new (E, reps c z)
  refine hs2.imp fun g' ⟨j1, j2, f1, f2, fd, fp, fr'⟩ => ⟨j1, j2, f1, f2, fd, ⟨_, a, c, rfl, by rw [reps_length, hzl.1], hac, w.heap.size, reps (c - a) z, rfl, Nat.le_of_eq (by rw [reps_length, hzl.1]), ?_⟩, fr'⟩
  rw [← reps_app, show a + (c - a) = c by omega]
  exact fp
theorem bld1 {z : List Value} {v : Value} {m : Nat} (hz : z.length = m) (hv : (vc v).length = m) (h0 : Nat.blt 0 m = true) : bld (reps 1 z) ((List.range 1).map fun i => (i * m, m)) [(0, v)] = some (vc v) := by
  have h1 : Nat.beq (vc v).length m = true := by rw [hv]; exact Nat.beq_refl m
  have h2 : putN (z ++ []) (0 * m) (vc v) = some (vc v) := by
    rw [Nat.zero_mul, List.append_nil]; exact putN_all _ _ (by rw [hz, hv])
  show (match ((List.range 1).map fun i => (i * m, m))[0]? with
    | some (o, s) => bif Nat.beq (vc v).length s && Nat.blt 0 s then (match putN (z ++ []) o (vc v) with
      | some z' => bld z' _ []
      | none => none) else none
    | none => none) = _
  simp only [List.range_one, List.map_cons, List.map_nil, List.getElem?_cons_zero, h1, h0, Bool.and_self, cond_true, h2, bld]
/-- A slice of one element. -/
theorem Sd.bs1 {E : TypeId} {m by_ : Nat} {zs : List Value} (i : Nat)
    (kk : ∀ b, Sd P l Q L W n κ fuel (i :: done) ((d, .slice (some ⟨b, 0, none⟩) 1 1) :: fr) (pts b (E, vc v) :: cs)) (hv : (vc v).length = m) (hi : getO l i = some ⟨some d, .buildSlice T 1 [(0, x)].toArray, ty, pos, af, g⟩ := by rfl)
    (h : Sl P T E m by_ ∧ Zr P E zs ∧ (zs.length = m ∧ Nat.blt 0 m = true ∧ Nat.ble (1 * m) 65536 = true) ∧ ev fr x = some v := by
      refine ⟨?_, ?_, ⟨?_, ?_, ?_⟩, ?_⟩; infer_instance; infer_instance; rfl; rfl; rfl; rfl)
    (hW : WOk cs W := by infer_instance) (hd : Nat.blt d n.n = true := by rfl) (hw : wantedF l.toArray fr g true = true := by rfl) (hr : Region.ready .any l.toArray (listedBy l.length done) = [i] := by kernel_rfl) : Sd P l Q L W n κ (fuel + 1) done fr cs :=
  .nn i (fr' := fun v => (d, v) :: fr) hi hr hw (have := h.1; have := h.2.1; OpN.buildSlice (vs := [(0, v)]) ⟨h.2.2.1.1, h.2.2.1.2.1, h.2.2.1.2.2, rfl⟩ (by simp [evp, h.2.2.2]) (bld1 h.2.2.1.1 hv h.2.2.1.2.1)) (fun _ _ hf => hf.put hd) (fun _ _ ⟨b, _, e'⟩ κ w hs _ => by rw [e'] at hs; exact hW.out hs.rows) (fun _ _ ⟨b, e, e'⟩ => by rw [e, e']; exact kk b)
theorem St.bs1 {E : TypeId} {m by_ : Nat} {zs : List Value}
    (kk : ∀ b, St P ops Q n κ rest ((d, .slice (some ⟨b, 0, none⟩) 1 1) :: fr) (pts b (E, vc v) :: cs)) (hv : (vc v).length = m)
    (h : Sl P T E m by_ ∧ Zr P E zs ∧ (zs.length = m ∧ Nat.blt 0 m = true ∧ Nat.ble (1 * m) 65536 = true) ∧ ev fr x = some v := by
      refine ⟨?_, ?_, ⟨?_, ?_, ?_⟩, ?_⟩; infer_instance; infer_instance; rfl; rfl; rfl; rfl)
    (hd : Nat.blt d n.n = true := by rfl) (hw : wantedF ops fr g true = true := by rfl) : St P ops Q n κ (⟨some d, .buildSlice T 1 [(0, x)].toArray, ty, pos, af, g⟩ :: rest) fr cs :=
  .nn (have := h.1; have := h.2.1; OpN.buildSlice (vs := [(0, v)]) ⟨h.2.2.1.1, h.2.2.1.2.1, h.2.2.1.2.2, rfl⟩ (by simp [evp, h.2.2.2]) (bld1 h.2.2.1.1 hv h.2.2.1.2.1)) (fun _ _ ⟨b, e, e'⟩ => by rw [e, e']; exact kk b) hd hw
theorem Sd.mu {a b : Int} (i : Nat) (kk : Sd P l Q L W n κ fuel (i :: done) ((d, .int .i64 (a * b)) :: fr) cs) (hi : getO l i = some ⟨some d, .binOp .mul T x y U, ty, pos, af, g⟩ := by rfl) (h : ev fr x = some (.int .i64 a) ∧ ev fr y = some (.int .i64 b) := by exact ⟨rfl, rfl⟩)
    (hr : -9223372036854775808 ≤ a * b ∧ a * b ≤ 9223372036854775807 := by omega) (hd : Nat.blt d n.n = true := by rfl) (hw : wantedF l.toArray fr g true = true := by rfl) (hchk : chkQ l done i = true := by kernel_rfl) :
    Sd P l Q L W n κ (fuel + 1) done fr cs := by refine .q i hi (.mul h.1 h.2) ?_ hd hw hchk; rw [wrap_in hr]; exact kk
theorem St.mks {m by_ a c : Nat} {k j : IntKind} {z : List Value} (kk : ∀ b, St P ops Q n κ rest ((d, .slice (some ⟨b, 0, none⟩) a c) :: fr) (sl m (.slice (some ⟨b, 0, none⟩) a c) (E, reps a z) :: cs))
    (hy : ev fr y = some (.int j c) := by rfl) (hx : ev fr x = some (.int k a) := by rfl)
    (h : Sl P T E m by_ ∧ Zr P E z ∧ (z.length = m ∧ Nat.blt 0 m = true) ∧ Nat.ble by_ 4096 = true := by refine ⟨?_, ?_, ⟨?_, ?_⟩, ?_⟩; infer_instance; infer_instance; rfl; rfl; rfl)
    (hac : a ≤ c := by omega) (hb : c ≤ 60000000000 := by omega) (hd : Nat.blt d n.n = true := by rfl) (hw : wantedF ops fr g true = true := by rfl) : St P ops Q n κ (⟨some d, .makeSlice T x y, ty, pos, af, g⟩ :: rest) fr cs :=
  .nn (have := h.1; have := h.2.1; .makeSlice hx hy h.2.2.1 hac (by
    have h1 := Nat.le_of_ble_eq_true h.2.2.2
    have : by_ * c ≤ 4096 * 60000000000 := Nat.mul_le_mul h1 hb
    omega) (by omega)) (fun _ _ ⟨b, e, e'⟩ => by rw [e, e']; exact kk b) hd hw
end
end Go.Proofs.YtpcechnalfaajaaDoor

/- A slice that owns its row: made shorter; out of a row; the ways of a list of rows. -/
namespace Go.Proofs.YtpcechnalfaajaaDoor
open Go Go.Proofs

theorem sepL_head {κ : Kap} {c d : HProp} {t : List HProp} (hcd : ∀ h, c κ h → d κ h) {g : Hp} (h : sepL κ (c :: t) g) : sepL κ (d :: t) g := by
  obtain ⟨h1, h2, s1, s2, dj, hc, hr⟩ := h
  exact ⟨h1, h2, s1, s2, dj, hcd _ hc, hr⟩
theorem sepL_in {κ : Kap} : ∀ (F : List HProp) {c : HProp} {t : List HProp} {g : Hp}, sepL κ (c :: (F ++ t)) g → sepL κ (F ++ c :: t) g := by
  intro F
  induction F with
  | nil => intro c t g h; exact h
  | cons z t ih => intro c t g h; exact sepL_tail (fun g h => ih h) (sepL_swap h)
theorem sepL_out {κ : Kap} : ∀ (F : List HProp) {c : HProp} {t : List HProp} {g : Hp}, sepL κ (F ++ c :: t) g → sepL κ (c :: (F ++ t)) g := by
  intro F
  induction F with
  | nil => intro c t g h; exact h
  | cons z t ih => intro c t g h; exact sepL_swap (sepL_tail (fun g h => ih h) h)
/-- x[:i:c] owns the row too. -/
theorem sl_cut {κ : Kap} {sz n cap : Nat} {p : Option Addr} {T : TypeId} {l : List Value} (i c : Nat) (hi : i ≤ n) (hc : i ≤ c ∧ c ≤ cap) {h : Hp} (hs : sl sz (.slice p n cap) (T, l) κ h) : sl sz (.slice p i c) (T, l.take (i * sz)) κ h := by
  obtain ⟨p', n', cap', e, hl, hle, hp⟩ := hs
  cases e
  have hin : i * sz ≤ n * sz := Nat.mul_le_mul_right sz hi
  refine ⟨p, i, c, rfl, by simp at hl ⊢; omega, hc.1, ?_⟩
  cases p with
  | none => exact ⟨by omega, by omega⟩
  | some a =>
    obtain ⟨b, sp, rfl, hsp, hpt⟩ := hp
    refine ⟨b, l.drop (i * sz) ++ sp, rfl, ?_, ?_⟩
    · simp at hl
      have h1 : (c - i) * sz ≤ (cap - i) * sz := Nat.mul_le_mul_right sz (by omega)
      have h2 : (cap - i) * sz = (cap - n) * sz + (n - i) * sz := by rw [← Nat.add_mul]; congr 1; omega
      have h3 : (n - i) * sz = n * sz - i * sz := Nat.sub_mul _ _ _
      rw [List.length_append, List.length_drop, hl]
      omega
    · show pts b (T, l.take (i * sz) ++ (l.drop (i * sz) ++ sp)) κ h
      rw [← List.append_assoc, List.take_append_drop]; exact hpt
/-- A row is owned by the slice of all of it. -/
theorem sl_own {κ : Kap} {sz n b : Nat} {T : TypeId} {l : List Value} (hl : l.length = n * sz) {h : Hp} (hs : pts b (T, l) κ h) : sl sz (.slice (some ⟨b, 0, none⟩) n n) (T, l) κ h :=
  ⟨_, n, n, rfl, hl, Nat.le_refl _, b, [], rfl, by simp, by simpa using hs⟩
theorem Ob.conv {K α : Type} {R : K → α → HProp} {k : K} {cs : List HProp} {x : α} {F : HProp → List HProp} (o : Ob R k cs x F) {d : HProp} {κ : Kap} {w : World} (hcd : ∀ h, R k x κ h → d κ h) (hs : Sat κ w cs) : Sat κ w (F d) := by
  obtain ⟨Fr, h1, h2⟩ := Sat.get (o := o) hs
  exact h2 d κ w (h1.imp fun g hg => sepL_head hcd hg)

section
variable {P : Program} {ops : Array Oper} {Q : Exit → Act → World → Prop} {n : Nd} {κ : Kap} {rest : List Oper} {l : List Oper} {L : List Nat} {W : List (Nat × Nat × List Value)} {fuel : Nat} {done : List Nat} {fr : List (Nat × Value)} {cs : List HProp}
/-- A slice is looked at as its beginning, with so much room. -/
theorem Sd.cut (p : Option Addr) (n0 cap sz i c : Nat) {T : TypeId} {r : List Value} {F : HProp → List HProp} (hi : i ≤ n0) (hc : i ≤ c ∧ c ≤ cap) (k : Sd P l Q L W n κ fuel done fr (F (sl sz (.slice p i c) (T, r.take (i * sz))))) (h : Ob (sl sz) (.slice p n0 cap) cs (T, r) F := by infer_instance) :
    Sd P l Q L W n κ fuel done fr cs := fun a w hf hs => k a w hf (h.conv (fun _ h => sl_cut i c hi hc h) hs)
theorem St.cutS (p : Option Addr) (n0 cap sz i c : Nat) {T : TypeId} {r : List Value} {F : HProp → List HProp} (hi : i ≤ n0) (hc : i ≤ c ∧ c ≤ cap) (k : St P ops Q n κ rest fr (F (sl sz (.slice p i c) (T, r.take (i * sz))))) (h : Ob (sl sz) (.slice p n0 cap) cs (T, r) F := by infer_instance) :
    St P ops Q n κ rest fr cs := fun a w hf hs => k a w hf (h.conv (fun _ h => sl_cut i c hi hc h) hs)
/-- A new row as a slice of so many elements. -/
theorem Sd.own (b k sz : Nat) {T : TypeId} {r : List Value} {F : HProp → List HProp} (hl : r.length = k * sz) (kk : Sd P l Q L W n κ fuel done fr (F (sl sz (.slice (some ⟨b, 0, none⟩) k k) (T, r)))) (h : Ob pts b cs (T, r) F := by infer_instance) :
    Sd P l Q L W n κ fuel done fr cs := fun a w hf hs => kk a w hf (h.conv (fun _ h => sl_own hl h) hs)
theorem St.own (b k sz : Nat) {T : TypeId} {r : List Value} {F : HProp → List HProp} (hl : r.length = k * sz) (kk : St P ops Q n κ rest fr (F (sl sz (.slice (some ⟨b, 0, none⟩) k k) (T, r)))) (h : Ob pts b cs (T, r) F := by infer_instance) :
    St P ops Q n κ rest fr cs := fun a w hf hs => kk a w hf (h.conv (fun _ h => sl_own hl h) hs)
end
end Go.Proofs.YtpcechnalfaajaaDoor

/- Many rows as one; trees of an index. -/
namespace Go.Proofs.YtpcechnalfaajaaDoor
open Go Go.Proofs

/-- Many rows as one. -/
def bun (X : List HProp) : HProp := fun κ h => sepL κ X h
theorem sepL_un {κ : Kap} : ∀ (X cs : List HProp) (h1 h2 g : Hp), sepL κ X h1 → sepL κ cs h2 → Sub h1 g → Sub h2 g → Dsj h1 h2 → sepL κ (X ++ cs) g := by
  intro X
  induction X with
  | nil => intro cs h1 h2 g _ hc _ s2 _; exact sepL_sub hc s2
  | cons x t ih =>
    intro cs h1 h2 g ⟨a, b, sa, sb, dab, hx, ht⟩ hc s1 s2 d
    have db : Dsj b h2 := Dsj.sub d sb (Sub.refl _)
    refine ⟨a, join b h2, sa.trans s1, join_sub (sb.trans s1) s2, dsj_join dab (Dsj.sub d sa (Sub.refl _)), hx, ?_⟩
    exact ih cs b h2 (join b h2) ht hc (sub_join_l _ _) (sub_join_r db) db
theorem bun_out {κ : Kap} {X cs : List HProp} {g : Hp} (h : sepL κ (bun X :: cs) g) : sepL κ (X ++ cs) g := by
  obtain ⟨h1, h2, s1, s2, d, hx, hc⟩ := h
  exact sepL_un X cs h1 h2 g hx hc s1 s2 d
theorem bun_in {κ : Kap} : ∀ {X cs : List HProp} {g : Hp}, sepL κ (X ++ cs) g → sepL κ (bun X :: cs) g := by
  intro X
  induction X with
  | nil => intro cs g h; exact ⟨fun _ => none, g, fun _ _ e => (by cases e), Sub.refl _, fun _ => .inl rfl, trivial, h⟩
  | cons x t ih =>
    intro cs g ⟨a, r, sa, sr, d, hx, h⟩
    obtain ⟨b, c, sb, sc, d2, hb, hc⟩ := ih h
    have dac : Dsj a c := Dsj.sub d (Sub.refl _) sc
    have dab : Dsj a b := Dsj.sub d (Sub.refl _) sb
    exact ⟨join a b, c, join_sub sa (sb.trans sr), sc.trans sr, Dsj.symm (dsj_join dac.symm d2.symm), ⟨a, b, sub_join_l _ _, sub_join_r dab, dab, hx, hb⟩, hc⟩
/-- Rows with something open, as one. -/
def exB {ι : Type} (p : ι → Prop) (X : ι → List HProp) : HProp := fun κ h => ∃ i, p i ∧ sepL κ (X i) h
theorem exB_out {κ : Kap} {ι : Type} {p : ι → Prop} {X : ι → List HProp} {cs : List HProp} {g : Hp} (h : sepL κ (exB p X :: cs) g) : ∃ i, p i ∧ sepL κ (X i ++ cs) g := by
  obtain ⟨h1, h2, s1, s2, d, ⟨i, hp, hx⟩, hc⟩ := h
  exact ⟨i, hp, sepL_un (X i) cs h1 h2 g hx hc s1 s2 d⟩
theorem exB_in {κ : Kap} {ι : Type} {p : ι → Prop} {X : ι → List HProp} {cs : List HProp} {g : Hp} (i : ι) (hp : p i) (h : sepL κ (X i ++ cs) g) : sepL κ (exB p X :: cs) g :=
  sepL_head (c := bun (X i)) (fun _ hh => ⟨i, hp, hh⟩) (bun_in h)

/-- A tree of an index, in plain Lean. -/
inductive Tree where
  | node (ks : List Num) (vs : List Int) (ts : List Tree)
structure NodeI where
  kp : Option Addr
  kc : Nat
  vp : Option Addr
  vcap : Nat
  tp : Option Addr
  tc : Nat
  bs : List Nat
def ptrV (b : Nat) : Value := .pointer (some ⟨b, 0, none⟩)
/-- A node's own rows. -/
abbrev hdr (b : Nat) (ks : List Num) (vs : List Int) (i : NodeI) (cs : List HProp) : List HProp :=
  pts b (130, [.slice i.kp ks.length i.kc, .slice i.vp vs.length i.vcap, .slice i.tp i.bs.length i.tc]) :: sl 2 (.slice i.kp ks.length i.kc) (24, ks.flatMap nm) :: sl 1 (.slice i.vp vs.length i.vcap) (3, cells .i64 vs) ::
    sl 1 (.slice i.tp i.bs.length i.tc) (84, i.bs.map ptrV) :: cs
mutual
/-- A tree in memory, at a block. -/
def tn : Tree → Nat → HProp
  | .node ks vs ts, b => exB (fun i : NodeI => i.bs.length = ts.length ∧ (ts = [] → i.tp = none)) (fun i => hdr b ks vs i (kidsP ts i.bs))
def kidsP : List Tree → List Nat → List HProp
  | t :: ts, b :: bs => tn t b :: kidsP ts bs
  | _, _ => []
end
end Go.Proofs.YtpcechnalfaajaaDoor

/- u128: Max, Of, Add, Sub, Compare, Least. -/
namespace Go.Proofs.YtpcechnalfaajaaDoor
open Go Go.Proofs

theorem max_tr (κ : Kap) (cs : List HProp) : Tr Tryd.prog 50 [] κ cs (.agg (nm (BitVec.allOnes 128)).toArray) cs := by
  refine .enter Tryd.func50 rfl rfl ?_
  refine .seq ?_
  refine .reg ?_
  refine .al fun b0 => ?_
  refine .go ?_
  refine .seq ?_
  refine .reg ?_
  refine .bd ?_
  refine .st ?_
  refine .go ?_
  refine .r1 fun w hs => ?_
  exact ⟨rfl, hs.rows⟩
theorem of_tr (m : Nat) (hm : m < 18446744073709551616) (κ : Kap) (cs : List HProp) : Tr Tryd.prog 17 [.int .u64 m] κ cs (.agg (nm (BitVec.ofNat 128 m)).toArray) cs := by
  refine .enter Tryd.func17 rfl rfl ?_
  refine .seq ?_
  refine .reg ?_
  refine .al fun b2 => ?_
  refine .go ?_
  refine .seq ?_
  refine .reg ?_
  refine .mv ?_
  refine .bd ?_
  refine .st ?_
  refine .go ?_
  refine .r1 fun w hs => ?_
  refine ⟨?_, hs.rows⟩
  have e := nm_of (hi := 0) (lo := (m : Int)) m (by omega) (by omega) (by omega)
  rw [← e]
theorem if01 (p : Prop) [Decidable p] : ∃ c : Int, (if p then (1 : Int) else 0) = c ∧ ((p ∧ c = 1) ∨ (¬ p ∧ c = 0)) := by
  by_cases h : p
  · exact ⟨1, if_pos h, .inl ⟨h, rfl⟩⟩
  · exact ⟨0, if_neg h, .inr ⟨h, rfl⟩⟩
theorem sub_tr (a b : Num) (κ : Kap) (cs : List HProp) : Tr Tryd.prog 22 [.agg (nm a).toArray, .agg (nm b).toArray] κ cs
    (.tuple #[.agg (nm (if a.toNat < b.toNat then 0 else a - b)).toArray, .bool (decide (b.toNat ≤ a.toNat))]) cs := by
  have ha := a.lt
  have hb := b.lt
  refine .enter Tryd.func22 rfl rfl ?_
  refine .seq ?_
  refine .reg ?_
  refine .bx fun b2 => ?_
  refine .bx fun b3 => ?_
  refine .al fun b4 => ?_
  refine .as ?_
  refine .go ?_
  refine .seq ?_
  refine .reg ?_
  refine .fa ?_
  refine .ld ?_
  refine .fa ?_
  refine .ld ?_
  refine .s64 ?_
  obtain ⟨c, hcd, hcv⟩ := if01 (((a.toNat % 18446744073709551616 : Nat) : Int) < ((b.toNat % 18446744073709551616 : Nat) : Int) + 0)
  rw [hcd]
  refine .mv ?_
  refine .ex ?_
  refine .ex ?_
  refine .as ?_
  refine .as ?_
  refine .go ?_
  refine .seq ?_
  refine .reg ?_
  refine .fa ?_
  refine .ld ?_
  refine .fa ?_
  refine .ld ?_
  refine .mv ?_
  refine .s64 ?_
  obtain ⟨c2, hcd2, hcv2⟩ := if01 (((a.toNat / 18446744073709551616 : Nat) : Int) < ((b.toNat / 18446744073709551616 : Nat) : Int) + c)
  rw [hcd2]
  refine .mv ?_
  refine .ex ?_
  refine .ex ?_
  refine .as ?_
  refine .as ?_
  refine .go ?_
  refine .seq ?_
  refine .seq ?_
  refine .reg ?_
  refine .mv ?_
  refine .gt ?_
  refine .go ?_
  refine .cond rfl (fun hc => ?_) (fun hc => ?_)   -- t28
  · have hc := of_decide_eq_true hc
    have hlt : a.toNat < b.toNat := by omega
    refine .seq ?_
    refine .reg ?_
    refine .bz ?_
    refine .st ?_
    refine .as ?_
    refine .go ?_
    refine .r2 fun w hs => ?_
    refine ⟨?_, hs.rows.rows.rows⟩
    rw [if_pos hlt, decide_eq_false (by omega)]; rfl
  · have hc := of_decide_eq_false hc
    have hge : b.toNat ≤ a.toNat := by omega
    refine .go ?_
    refine .seq ?_
    refine .reg ?_
    refine .mv ?_
    refine .mv ?_
    refine .bd ?_
    refine .st ?_
    refine .as ?_
    refine .go ?_
    refine .r2 fun w hs => ?_
    refine ⟨?_, hs.rows.rows.rows⟩
    rw [if_neg (by omega), decide_eq_true hge]
    have e : (a - b).toNat = a.toNat - b.toNat := by rw [BitVec.toNat_sub]; omega
    have e2 : a - b = BitVec.ofNat 128 (a.toNat - b.toNat) := by apply BitVec.eq_of_toNat_eq; rw [e, nm_ofNat (by omega)]
    rw [e2, ← nm_of (hi := (((a.toNat / 18446744073709551616 : Nat) : Int) - ((b.toNat / 18446744073709551616 : Nat) : Int) - c) % 18446744073709551616)
      (lo := (((a.toNat % 18446744073709551616 : Nat) : Int) - ((b.toNat % 18446744073709551616 : Nat) : Int) - 0) % 18446744073709551616) (a.toNat - b.toNat) (by omega) (by omega) (by omega)]
/-- What Compare tells. -/
def cmpN (a b : Num) : Int := if a.toNat < b.toNat then -1 else if a = b then 0 else 1
theorem compare_tr (a b : Num) (κ : Kap) (cs : List HProp) : Tr Tryd.prog 19 [.agg (nm a).toArray, .agg (nm b).toArray] κ cs (.int .i64 (cmpN a b)) cs := by
  have ha := a.lt
  have hb := b.lt
  have he : (a = b) ↔ (a.toNat = b.toNat) := BitVec.toNat_eq
  refine .enter Tryd.func19 rfl rfl ?_
  refine .seq ?_
  refine .reg ?_
  refine .bx fun b2 => ?_
  refine .bx fun b3 => ?_
  refine .as ?_
  refine .go ?_
  refine .seq ?_
  refine .block ?_
  refine .seq ?_
  refine .reg ?_
  refine .fa ?_
  refine .ld ?_
  refine .fa ?_
  refine .ld ?_
  refine .lt ?_
  refine .mv ?_
  refine .caseB 11 rfl (fun h1 => ?_) (fun h1 => ?_)
  · have h1 := of_decide_eq_true h1
    refine .skip ?_
    refine .skip ?_
    refine .skip ?_
    refine .skip ?_
    refine .skip ?_
    refine .skip ?_
    refine .skip ?_
    refine .skip ?_
    refine .skip ?_
    refine .skip ?_
    refine .skip ?_
    refine .skip ?_
    refine .pt ?_
    refine .as ?_
    refine .go ?_
    refine .cond rfl (fun hc => ?_) (fun hc => ?_)   -- t5
    · refine .seq ?_
      refine .reg ?_
      refine .as ?_
      refine .go ?_
      refine .r1 fun w hs => ?_
      refine ⟨?_, hs.rows.rows⟩
      unfold cmpN; rw [if_pos (by omega)]
    · cases hc
  · have h1 := of_decide_eq_false h1
    refine .fa ?_
    refine .ld ?_
    refine .fa ?_
    refine .ld ?_
    refine .eq ?_
    refine .mv ?_
    refine .caseB 17 rfl (fun h2 => ?_) (fun h2 => ?_)
    · have h2 := of_decide_eq_true h2
      refine .fa ?_
      refine .ld ?_
      refine .fa ?_
      refine .ld ?_
      refine .lt ?_
      refine .pt ?_
      refine .pf ?_
      refine .as ?_
      refine .go ?_
      refine .cond rfl (fun hc => ?_) (fun hc => ?_)   -- t5
      · have hc := of_decide_eq_true hc
        refine .seq ?_
        refine .reg ?_
        refine .as ?_
        refine .go ?_
        refine .r1 fun w hs => ?_
        refine ⟨?_, hs.rows.rows⟩
        unfold cmpN; rw [if_pos (by omega)]
      · have hc := of_decide_eq_false hc
        refine .seq ?_
        refine .reg ?_
        refine .ldw ?_
        refine .ldw ?_
        refine .eqt (nm a) (nm b) (rowEq_nm a b) ⟨⟨rfl, by kernel_rfl⟩, ⟨rfl, by kernel_rfl⟩⟩ ?_
        refine .as ?_
        refine .go ?_
        refine .cond rfl (fun hc2 => ?_) (fun hc2 => ?_)   -- t25
        · have hc2 := of_decide_eq_true hc2
          refine .seq ?_
          refine .reg ?_
          refine .as ?_
          refine .go ?_
          refine .r1 fun w hs => ?_
          refine ⟨?_, hs.rows.rows⟩
          unfold cmpN; rw [if_neg (by rw [hc2]; omega), if_pos hc2]
        · have hc2 := of_decide_eq_false hc2
          refine .go ?_
          refine .seq ?_
          refine .reg ?_
          refine .as ?_
          refine .go ?_
          refine .r1 fun w hs => ?_
          refine ⟨?_, hs.rows.rows⟩
          rw [he] at hc2
          unfold cmpN; rw [if_neg (by omega), if_neg (by rw [he]; exact hc2)]
    · have h2 := of_decide_eq_false h2
      refine .skip ?_
      refine .skip ?_
      refine .skip ?_
      refine .skip ?_
      refine .skip ?_
      refine .pf ?_
      refine .pf ?_
      refine .as ?_
      refine .go ?_
      refine .cond rfl (fun hc => ?_) (fun hc => ?_)   -- t5
      · cases hc
      · refine .seq ?_
        refine .reg ?_
        refine .ldw ?_
        refine .ldw ?_
        refine .eqt (nm a) (nm b) (rowEq_nm a b) ⟨⟨rfl, by kernel_rfl⟩, ⟨rfl, by kernel_rfl⟩⟩ ?_
        refine .as ?_
        refine .go ?_
        refine .cond rfl (fun hc2 => ?_) (fun hc2 => ?_)   -- t25
        · have hc2 := of_decide_eq_true hc2
          exact absurd (by rw [hc2]) h2
        · refine .go ?_
          refine .seq ?_
          refine .reg ?_
          refine .as ?_
          refine .go ?_
          refine .r1 fun w hs => ?_
          refine ⟨?_, hs.rows.rows⟩
          have hc2 := of_decide_eq_false hc2
          unfold cmpN; rw [if_neg (by omega), if_neg hc2]
end Go.Proofs.YtpcechnalfaajaaDoor

/- u128.Add, Least; rule's sums. -/
namespace Go.Proofs.YtpcechnalfaajaaDoor
open Go Go.Proofs

theorem add_tr (xs : List Num) (hl : xs.length < 2147483648) (p : Option Addr) (cap : Nat) (κ : Kap) (cs : List HProp) (hr : RdS cs p (xs.flatMap nm)) :
    Tr Tryd.prog 21 [.slice p xs.length cap] κ cs (.tuple #[.agg (nm (addN xs)).toArray, .bool (fitN xs)]) cs := by
  refine .enter Tryd.func21 rfl rfl ?_
  refine .seq ?_
  refine .reg ?_
  refine .al fun b2 => ?_
  refine .as ?_
  refine .go ?_
  refine .seq ?_
  refine .reg ?_
  refine .al fun b4 => ?_
  refine .go ?_
  refine .seq ?_
  refine .seq ?_
  refine .reg ?_
  refine .mv ?_
  refine .ln ?_
  refine .mv ?_
  refine .go ?_
  refine .block ?_
  refine .lp (fun i : Nat => [(2, .pointer (some ⟨b2, 0, none⟩)), (4, .pointer (some ⟨b4, 0, none⟩)), (11, .slice p xs.length cap), (12, .int .i64 xs.length), (13, .int .i64 i)])
    (fun i => pts b4 (24, nm (BitVec.ofNat 128 ((xs.take i).map (·.toNat)).sum)) :: pts b2 (24, nm 0) :: cs) (fun i => i ≤ xs.length ∧ ((xs.take i).map (·.toNat)).sum < 340282366920938463463374607431768211456) (fun i => xs.length - i) 0 (by simp) ⟨rfl, rfl, rfl, rfl, rfl, trivial⟩ (by simp [nm]) fun i hi => ?_
  refine .seq ?_
  refine .reg ?_
  refine .lt ?_
  refine .go ?_
  refine .seq ?_
  refine .cond rfl (fun hc => ?_) (fun hc => ?_)   -- t14
  · refine .go ?_
    have hlt : i < xs.length := by simpa using hc
    rcases hr with hr | ⟨b, o, rfl, hr⟩
    · have : xs.length = 0 := by
        cases xs with
        | nil => rfl
        | cons x t => simp [nm] at hr
      omega
    have hxi := xs[i].lt
    have hsum : ((xs.take (i + 1)).map (·.toNat)).sum = ((xs.take i).map (·.toNat)).sum + xs[i].toNat := by rw [List.take_succ_eq_append_getElem hlt, List.map_append, List.sum_append]; simp
    have hle : ((xs.take (i + 1)).map (·.toNat)).sum ≤ (xs.map (·.toNat)).sum := by
      conv => rhs; rw [← List.take_append_drop (i + 1) xs, List.map_append, List.sum_append]
      omega
    obtain ⟨_, hS2⟩ := hi
    have hS3 := nm_ofNat hS2
    refine .seq ?_
    refine .block ?_
    refine .seq ?_
    refine .reg ?_
    refine .ix ?_
    refine .lx (flat_get nm 2 nm_len xs i 0 2 true (.agg (nm xs[i]).toArray) hlt rfl) ?_
    refine .al fun b6 => ?_
    refine .st ?_
    refine .go ?_
    generalize hy : xs[i] = y at *
    generalize hS : ((xs.take i).map (·.toNat)).sum = S at *
    refine .seq ?_
    refine .reg ?_
    refine .fa ?_
    refine .ld ?_
    refine .fa ?_
    refine .ld ?_
    refine .a64 ?_
    refine .mv ?_
    refine .ex ?_
    refine .ex ?_
    refine .as ?_
    refine .as ?_
    refine .go ?_
    refine .seq ?_
    refine .reg ?_
    refine .fa ?_
    refine .ld ?_
    refine .fa ?_
    refine .ld ?_
    refine .mv ?_
    refine .a64 ?_
    refine .mv ?_
    refine .ex ?_
    refine .ex ?_
    refine .as ?_
    refine .as ?_
    refine .go ?_
    refine .seq ?_
    refine .seq ?_
    refine .reg ?_
    refine .mv ?_
    refine .gt ?_
    refine .go ?_
    rw [hS3]
    refine .cond rfl (fun hc => ?_) (fun hc => ?_)   -- t35
    · have hc' := of_decide_eq_true hc
      refine .seq ?_
      refine .reg ?_
      refine .bz ?_
      refine .st ?_
      refine .as ?_
      refine .go ?_
      refine .r2 fun w hs => ?_
      refine ⟨?_, hs.rows.rows.rows⟩
      have hbig : ¬ (xs.map (·.toNat)).sum < 340282366920938463463374607431768211456 := by omega
      unfold addN fitN
      rw [if_neg hbig, decide_eq_false hbig]; rfl
    · have hc' := of_decide_eq_false hc
      refine .go ?_
      refine .reg ?_
      refine .mv ?_
      refine .mv ?_
      refine .bd ?_
      refine .st ?_
      refine .go ?_
      refine .reg ?_
      refine .ad ?_
      refine .mv ?_
      refine .nil fun a w hf hs => ⟨i + 1, ⟨by omega, by omega⟩, by omega, hf.to (by repeat (first | exact trivial | refine ⟨rfl, ?_⟩)), ?_⟩
      have hs := hs.rows
      rw [hsum, ← nm_of (S + y.toNat) (by omega) (hi := _) (lo := _) ?_ ?_]
      · exact hs
      · omega
      · omega
  · refine .xgo ?_
    have hge : i = xs.length := by have := of_decide_eq_false hc; omega
    subst hge
    refine .seq ?_
    refine .reg ?_
    refine .ldw ?_
    refine .st ?_
    refine .as ?_
    refine .go ?_
    refine .r2 fun w hs => ?_
    refine ⟨?_, hs.rows.rows⟩
    have hi := hi.2
    rw [List.take_length] at hi ⊢
    unfold addN fitN
    rw [if_pos hi, decide_eq_true hi]
    rfl
/-- Of a slice that was just built. -/
theorem add2_tr (x y : Num) (b : Nat) (κ : Kap) (cs : List HProp) [h : RdAt b cs 0 [.int .u64 ((x.toNat / 18446744073709551616 : Nat) : Int), .int .u64 ((x.toNat % 18446744073709551616 : Nat) : Int), .int .u64 ((y.toNat / 18446744073709551616 : Nat) : Int), .int .u64 ((y.toNat % 18446744073709551616 : Nat) : Int)]] :
    Tr Tryd.prog 21 [.slice (some ⟨b, 0, none⟩) 2 2] κ cs (.tuple #[.agg (nm (addN [x, y])).toArray, .bool (fitN [x, y])]) cs :=
  add_tr [x, y] (by simp) _ 2 κ cs (.inr ⟨b, 0, rfl, h⟩)
end Go.Proofs.YtpcechnalfaajaaDoor

/- rule: sums, room, limits. -/
namespace Go.Proofs.YtpcechnalfaajaaDoor
open Go Go.Proofs

theorem zero_tr (κ : Kap) (cs : List HProp) : Tr Tryd.prog 52 [] κ cs (.agg (nm 0).toArray) cs := by
  refine .enter Tryd.func52 rfl rfl ?_
  refine .seq ?_
  refine .reg ?_
  refine .al fun b0 => ?_
  refine .go ?_
  refine .seq ?_
  refine .reg ?_
  refine .al fun b1 => ?_
  refine .go ?_
  refine .seq ?_
  refine .reg ?_
  refine .ld ?_
  refine .st ?_
  refine .go ?_
  refine .r1 fun w hs => ?_
  exact ⟨rfl, hs.rows.rows⟩
theorem sum2_tr (x y : Num) (b : Nat) (κ : Kap) (cs : List HProp) [h : RdAt b cs 0 [.int .u64 ((x.toNat / 18446744073709551616 : Nat) : Int), .int .u64 ((x.toNat % 18446744073709551616 : Nat) : Int), .int .u64 ((y.toNat / 18446744073709551616 : Nat) : Int), .int .u64 ((y.toNat % 18446744073709551616 : Nat) : Int)]] :
    Tr Tryd.prog 83 [.slice (some ⟨b, 0, none⟩) 2 2] κ cs (.agg (nm (sumN [x, y])).toArray) cs := by
  refine .enter Tryd.func83 rfl rfl ?_
  refine .seq ?_
  refine .reg ?_
  refine .al fun b2 => ?_
  refine .go ?_
  refine .seq ?_
  refine .reg ?_
  refine .mv ?_
  refine .cl (add2_tr x y b κ _) ?_
  refine .mv ?_
  refine .ex ?_
  refine .ex ?_
  refine .al fun b3 => ?_
  refine .st ?_
  refine .as ?_
  refine .go ?_
  refine .seq ?_
  refine .seq ?_
  refine .reg ?_
  refine .mv ?_
  refine .nt ?_
  refine .go ?_
  refine .cond rfl (fun hc => ?_) (fun hc => ?_)   -- t11
  · refine .seq ?_
    refine .reg ?_
    refine .cl (max_tr κ _) ?_
    refine .st ?_
    refine .go ?_
    refine .r1 fun w hs => ?_
    refine ⟨?_, hs.rows.rows⟩
    unfold sumN; rw [if_neg (by simpa using hc)]; rfl
  · refine .go ?_
    refine .seq ?_
    refine .reg ?_
    refine .ld ?_
    refine .st ?_
    refine .go ?_
    refine .r1 fun w hs => ?_
    refine ⟨?_, hs.rows.rows⟩
    unfold sumN; rw [if_pos (by simpa using hc)]; rfl
theorem room_tr (a : Account) (debit : Bool) (κ : Kap) (cs : List HProp) : Tr Tryd.prog 76 [.agg (encA a).toArray, .bool debit] κ cs (.agg (nm (roomN a debit)).toArray) cs := by
  refine .enter Tryd.func76 rfl rfl ?_
  refine .seq ?_
  refine .reg ?_
  refine .bx fun b2 => ?_
  refine .al fun b4 => ?_
  refine .go ?_
  refine .seq ?_
  refine .regD [(b2, 0, vc (.agg (encA a).toArray))] [] ?_
  refine .fa 0 ?_
  refine .ld 1 ?_
  refine .fa 2 ?_
  refine .ld 3 ?_
  refine .fa 4 ?_
  refine .ld 5 ?_
  refine .pend ?_
  refine .al 9 ?_
  refine .al 8 ?_
  refine .bs 6 ?_
  refine .com fun b15 => ?_
  refine .cl 7 (fun F => sum2_tr a.cp a.cq b15 κ _ (h := .app inferInstance)) ?_
  refine .com fun b5 => ?_
  refine .com fun b6 => ?_
  refine .dn ?_
  refine .st 10 ?_
  refine .st 11 ?_
  refine .go ?_
  refine .jn (ι := Num × Num) (fun i => [(2, .pointer (some ⟨b2, 0, none⟩)), (4, .pointer (some ⟨b4, 0, none⟩)), (5, .pointer (some ⟨b5, 0, none⟩)), (6, .pointer (some ⟨b6, 0, none⟩))])
    (fun i => pts b6 (24, nm i.2) :: pts b5 (24, nm i.1) :: pts b15 (24, nm a.cp ++ nm a.cq) :: pts b4 (24, nm 0) :: pts b2 (37, vc (.agg (encA a).toArray)) :: cs)
    (fun i => roomN a debit = subN i.1 i.2) ?_ (fun i hi => ?_)
  · refine .seq ?_
    refine .reg ?_
    refine .mv ?_
    refine .go ?_
    refine .cond rfl (fun hc => ?_) (fun hc => ?_)   -- t17
    · refine .regD [(b2, 0, vc (.agg (encA a).toArray))] [] ?_
      refine .fa 0 ?_
      refine .ld 1 ?_
      refine .fa 2 ?_
      refine .ld 3 ?_
      refine .fa 4 ?_
      refine .ld 5 ?_
      refine .bs 6 fun b24 => ?_
      refine .cl 7 (sum2_tr a.dp a.dq b24 κ _) ?_
      refine .st 8 ?_
      refine .st 9 ?_
      refine .nil fun aa w hf hs => ⟨(a.cq, sumN [a.dp, a.dq]), by rw [hc]; rfl, hf.to (by repeat (first | exact trivial | refine ⟨rfl, ?_⟩)), hs.rows⟩
    · refine .skip fun aa w hf hs => ⟨(a.dq, sumN [a.cp, a.cq]), by rw [hc]; rfl, hf.to (by repeat (first | exact trivial | refine ⟨rfl, ?_⟩)), hs⟩
  · refine .seq ?_
    refine .reg ?_
    refine .ld ?_
    refine .ld ?_
    refine .cl (sub_tr i.1 i.2 κ _) ?_
    refine .mv ?_
    refine .ex ?_
    refine .ex ?_
    refine .al fun b7 => ?_
    refine .st ?_
    refine .as ?_
    refine .go ?_
    refine .seq ?_
    refine .reg ?_
    refine .ld ?_
    refine .st ?_
    refine .go ?_
    refine .r1 fun w hs => ?_
    refine ⟨?_, hs.rows.rows.rows.rows.rows.rows⟩
    rw [hi]; rfl
theorem cmp_ways (a b : Num) : (a.toNat < b.toNat ∧ cmpN a b = -1) ∨ (a.toNat = b.toNat ∧ cmpN a b = 0) ∨ (b.toNat < a.toNat ∧ cmpN a b = 1) := by
  have he : (a = b) ↔ (a.toNat = b.toNat) := BitVec.toNat_eq
  unfold cmpN
  by_cases h1 : a.toNat < b.toNat
  · exact .inl ⟨h1, if_pos h1⟩
  · by_cases h2 : a = b
    · exact .inr (.inl ⟨he.1 h2, by rw [if_neg h1, if_pos h2]⟩)
    · refine .inr (.inr ⟨?_, by rw [if_neg h1, if_neg h2]⟩)
      have := mt he.2 h2; omega
theorem cmp_pos (a b : Num) : decide ((0 : Int) < cmpN a b) = decide (b.toNat < a.toNat) := by
  rcases cmp_ways a b with ⟨h, e⟩ | ⟨h, e⟩ | ⟨h, e⟩ <;> rw [e, decide_eq_decide] <;> omega
theorem cmp_le (a b : Num) : decide (cmpN a b ≤ (0 : Int)) = decide (a.toNat ≤ b.toNat) := by
  rcases cmp_ways a b with ⟨h, e⟩ | ⟨h, e⟩ | ⟨h, e⟩ <;> rw [e, decide_eq_decide] <;> omega
theorem within_tr (a : Account) (κ : Kap) (cs : List HProp) : Tr Tryd.prog 55 [.agg (encA a).toArray] κ cs (.bool (withinA a)) cs := by
  refine .enter Tryd.func55 rfl rfl ?_
  refine .seq ?_
  refine .reg ?_
  refine .bx fun b1 => ?_
  refine .as ?_
  refine .go ?_
  refine .seq ?_
  refine .reg ?_
  refine .fa ?_
  refine .ld ?_
  refine .fa ?_
  refine .ld ?_
  refine .bs fun b12 => ?_
  refine .cl (add2_tr a.dp a.dq b12 κ _) ?_
  refine .mv ?_
  refine .ex ?_
  refine .ex ?_
  refine .al fun b3 => ?_
  refine .st ?_
  refine .as ?_
  refine .go ?_
  refine .seq ?_
  refine .reg ?_
  refine .fa ?_
  refine .ld ?_
  refine .fa ?_
  refine .ld ?_
  refine .bs fun b21 => ?_
  refine .cl (add2_tr a.cp a.cq b21 κ _) ?_
  refine .mv ?_
  refine .ex ?_
  refine .ex ?_
  refine .al fun b5 => ?_
  refine .st ?_
  refine .as ?_
  refine .go ?_
  refine .jn (ι := Unit) (fun i => [(1, .pointer (some ⟨b1, 0, none⟩)), (5, .pointer (some ⟨b5, 0, none⟩)), (6, .bool (fitN [a.cp, a.cq]))])
    (fun i => pts b5 (24, nm (addN [a.cp, a.cq])) :: pts b21 (24, nm a.cp ++ nm a.cq) :: pts b3 (24, nm (addN [a.dp, a.dq])) :: pts b12 (24, nm a.dp ++ nm a.dq) :: pts b1 (37, vc (.agg (encA a).toArray)) :: cs)
    (fun i => (decide (band a.flags 2 ≠ 0) && (!fitN [a.dp, a.dq] || decide (a.cq.toNat < (addN [a.dp, a.dq]).toNat))) = false) ?_ (fun i hi => ?_)
  · refine .seq ?_
    refine .reg ?_
    refine .fa ?_
    refine .ld ?_
    refine .an ?_
    refine .ne ?_
    refine .mv ?_
    refine .cut 10 (ι := Bool) (fun i => [(1, .pointer (some ⟨b1, 0, none⟩)), (39, .bool i), (5, .pointer (some ⟨b5, 0, none⟩)), (6, .bool (fitN [a.cp, a.cq]))])
      (fun i => pts b5 (24, nm (addN [a.cp, a.cq])) :: pts b21 (24, nm a.cp ++ nm a.cq) :: pts b3 (24, nm (addN [a.dp, a.dq])) :: pts b12 (24, nm a.dp ++ nm a.dq) :: pts b1 (37, vc (.agg (encA a).toArray)) :: cs)
      (fun i => i = (decide (band a.flags 2 ≠ 0) && (!fitN [a.dp, a.dq] || decide (a.cq.toNat < (addN [a.dp, a.dq]).toNat)))) ?_ (fun i hi => ?_)
    · refine .caseB 29 rfl (fun h1 => ?_) (fun h1 => ?_)
      · refine .mv ?_
        refine .nt ?_
        refine .mv ?_
        refine .caseB 32 rfl (fun h2 => ?_) (fun h2 => ?_)
        · refine .skip ?_
          refine .skip ?_
          refine .skip ?_
          refine .skip ?_
          refine .skip ?_
          refine .pt ?_
          refine .pt ?_
          exact .nil fun aa w hf hs => ⟨true, by rw [h1, h2]; rfl, hf.to (by repeat (first | exact trivial | refine ⟨rfl, ?_⟩)), hs⟩
        · refine .ld ?_
          refine .fa ?_
          refine .ld ?_
          refine .cl (compare_tr (addN [a.dp, a.dq]) a.cq κ _) ?_
          refine .gt ?_
          refine .pf ?_
          refine .pt ?_
          exact .nil fun aa w hf hs => ⟨_, by rw [h1, h2, ← cmp_pos], hf.to (by repeat (first | exact trivial | refine ⟨rfl, ?_⟩)), hs⟩
      · refine .skip ?_
        refine .skip ?_
        refine .skip ?_
        refine .skip ?_
        refine .skip ?_
        refine .skip ?_
        refine .skip ?_
        refine .skip ?_
        refine .skip ?_
        refine .pf ?_
        exact .nil fun aa w hf hs => ⟨false, by rw [h1]; rfl, hf.to (by repeat (first | exact trivial | refine ⟨rfl, ?_⟩)), hs⟩
    · refine .go ?_
      refine .cond rfl (fun hc => ?_) (fun hc => ?_)
      · refine .seq ?_
        refine .reg ?_
        refine .as ?_
        refine .go ?_
        refine .r1 fun w hs => ?_
        refine ⟨?_, hs.rows.rows.rows.rows.rows⟩
        unfold withinA; rw [← hi, hc]; rfl
      · exact .skip fun aa w hf hs => ⟨(), by rw [← hi, hc], hf.to (by repeat (first | exact trivial | refine ⟨rfl, ?_⟩)), hs⟩
  · refine .seq ?_
    refine .reg ?_
    refine .fa ?_
    refine .ld ?_
    refine .an ?_
    refine .eq ?_
    refine .mv ?_
    refine .caseB 44 rfl (fun h1 => ?_) (fun h1 => ?_)
    · refine .skip ?_
      refine .skip ?_
      refine .skip ?_
      refine .skip ?_
      refine .skip ?_
      refine .skip ?_
      refine .skip ?_
      refine .skip ?_
      refine .pt ?_
      refine .as ?_
      refine .go ?_
      refine .r1 fun w hs => ?_
      refine ⟨?_, hs.rows.rows.rows.rows.rows⟩
      unfold withinA; rw [hi, show decide (band a.flags 4 = 0) = true from h1]; rfl
    · refine .mv ?_
      refine .mv ?_
      refine .caseB 46 rfl (fun h2 => ?_) (fun h2 => ?_)
      · refine .ld ?_
        refine .fa ?_
        refine .ld ?_
        refine .cl (compare_tr (addN [a.cp, a.cq]) a.dq κ _) ?_
        refine .le ?_
        refine .pt ?_
        refine .pf ?_
        refine .as ?_
        refine .go ?_
        refine .r1 fun w hs => ?_
        refine ⟨?_, hs.rows.rows.rows.rows.rows⟩
        unfold withinA; rw [hi, show decide (band a.flags 4 = 0) = false from h1, h2, ← cmp_le]; rfl
      · refine .skip ?_
        refine .skip ?_
        refine .skip ?_
        refine .skip ?_
        refine .skip ?_
        refine .pf ?_
        refine .pf ?_
        refine .as ?_
        refine .go ?_
        refine .r1 fun w hs => ?_
        refine ⟨?_, hs.rows.rows.rows.rows.rows⟩
        unfold withinA; rw [hi, show decide (band a.flags 4 = 0) = false from h1, h2]; rfl
end Go.Proofs.YtpcechnalfaajaaDoor

/- rule: what is wrong with accounts and transfers by themselves. -/
namespace Go.Proofs.YtpcechnalfaajaaDoor
open Go Go.Proofs

theorem ruleA_tr (a : Account) (κ : Kap) (cs : List HProp) : Tr Tryd.prog 29 [.agg (encA a).toArray] κ cs (.int .i64 (ruleA a)) cs := by
  refine .enter Tryd.func29 rfl rfl ?_
  refine .seq ?_
  refine .reg ?_
  refine .bx fun b1 => ?_
  refine .as ?_
  refine .go ?_
  refine .seq ?_
  refine .block ?_
  refine .seq ?_
  refine .regD [(b1, 0, vc (.agg (encA a).toArray))] [] ?_
  refine .fa 0 ?_
  refine .ld 1 ?_
  refine .cl 2 (zero_tr κ _) ?_
  refine .eqn 3 a.id 0 ?_
  refine .as 4 ?_
  refine .go ?_
  unfold ruleA
  refine .cond rfl (fun hc => ?_) (fun hc => ?_)   -- t3
  · refine .seq ?_
    refine .reg ?_
    refine .as ?_
    refine .go ?_
    refine .r1 fun w hs => ?_
    exact ⟨by rw [if_pos (of_decide_eq_true hc)], hs.rows⟩
  · rw [if_neg (of_decide_eq_false hc)]
    refine .jn (ι := Bool) (fun i => [(8, .bool i), (1, .pointer (some ⟨b1, 0, none⟩))]) (fun i => pts b1 (37, vc (.agg (encA a).toArray)) :: cs)
      (fun i => i = decide (bclr a.flags 7 ≠ 0 ∨ (band a.flags 2 ≠ 0 ∧ band a.flags 4 ≠ 0))) ?_ (fun i hi => ?_)
    · refine .reg ?_
      refine .fa ?_
      refine .ld ?_
      refine .ano ?_
      refine .ne ?_
      refine .mv ?_
      refine .caseB 13 rfl (fun h1 => ?_) (fun h1 => ?_)
      · repeat refine .skip ?_
        first | refine .pt ?_ | refine .pf ?_
        refine .as ?_
        exact .nil fun aa w hf hs => ⟨true, by rw [decide_eq_true (.inl (of_decide_eq_true h1))], hf.to (by repeat (first | exact trivial | refine ⟨rfl, ?_⟩)), hs⟩
      · have h1 := of_decide_eq_false h1
        refine .fa ?_
        refine .ld ?_
        refine .an ?_
        refine .ne ?_
        refine .mv ?_
        refine .caseB 18 rfl (fun h2 => ?_) (fun h2 => ?_)
        · refine .fa ?_
          refine .ld ?_
          refine .an ?_
          refine .ne ?_
          first | refine .pt ?_ | refine .pf ?_
          first | refine .pt ?_ | refine .pf ?_
          refine .as ?_
          exact .nil fun aa w hf hs => ⟨decide (band a.flags 4 ≠ 0), by rw [decide_eq_decide]; exact ⟨fun h => .inr ⟨of_decide_eq_true h2, h⟩, fun h => h.elim (fun h => absurd h h1) (·.2)⟩, hf.to (by repeat (first | exact trivial | refine ⟨rfl, ?_⟩)), hs⟩
        · repeat refine .skip ?_
          first | refine .pt ?_ | refine .pf ?_
          first | refine .pt ?_ | refine .pf ?_
          refine .as ?_
          exact .nil fun aa w hf hs => ⟨false, by rw [decide_eq_false]; exact fun h => h.elim h1 fun h => of_decide_eq_false h2 h.1, hf.to (by repeat (first | exact trivial | refine ⟨rfl, ?_⟩)), hs⟩
    · refine .cond rfl (fun hc => ?_) (fun hc => ?_)   -- t8
      · subst hi
        rw [if_pos (of_decide_eq_true hc)]
        refine .seq ?_
        refine .reg ?_
        refine .as ?_
        refine .go ?_
        refine .r1 fun w hs => ?_
        exact ⟨rfl, hs.rows⟩
      · subst hi
        rw [if_neg (of_decide_eq_false hc)]
        refine .seq ?_
        refine .reg ?_
        refine .fa ?_
        refine .ld ?_
        refine .eq ?_
        refine .as ?_
        refine .go ?_
        refine .cond rfl (fun hc => ?_) (fun hc => ?_)   -- t25
        · rw [if_pos (of_decide_eq_true hc)]
          refine .seq ?_
          refine .reg ?_
          refine .as ?_
          refine .go ?_
          refine .r1 fun w hs => ?_
          exact ⟨rfl, hs.rows⟩
        · rw [if_neg (of_decide_eq_false hc)]
          refine .go ?_
          refine .seq ?_
          refine .reg ?_
          refine .as ?_
          refine .go ?_
          refine .r1 fun w hs => ?_
          exact ⟨rfl, hs.rows⟩
theorem againA_tr (a old : Account) (κ : Kap) (cs : List HProp) : Tr Tryd.prog 60 [.agg (encA a).toArray, .agg (encA old).toArray] κ cs (.int .i64 (againA a old)) cs := by
  refine .enter Tryd.func60 rfl rfl ?_
  unfold againA
  refine .seq ?_
  refine .reg ?_
  refine .bx fun b2 => ?_
  refine .bx fun b3 => ?_
  refine .as ?_
  refine .go ?_
  refine .seq ?_
  refine .block ?_
  refine .seq ?_
  refine .reg ?_
  refine .fa ?_
  refine .ld ?_
  refine .fa ?_
  refine .ld ?_
  refine .ne ?_
  refine .as ?_
  refine .go ?_
  refine .cond rfl (fun hc => ?_) (fun hc => ?_)   -- t5
  · rw [if_pos (of_decide_eq_true hc)]
    refine .seq ?_
    refine .reg ?_
    refine .as ?_
    refine .go ?_
    refine .r1 fun w hs => ?_
    exact ⟨rfl, hs.rows.rows⟩
  · rw [if_neg (of_decide_eq_false hc)]
    refine .seq ?_
    refine .reg ?_
    refine .fa ?_
    refine .ld ?_
    refine .ano ?_
    refine .fa ?_
    refine .ld ?_
    refine .ano ?_
    refine .ne ?_
    refine .as ?_
    refine .go ?_
    refine .cond rfl (fun hc => ?_) (fun hc => ?_)   -- t11
    · rw [if_pos (of_decide_eq_true hc)]
      refine .seq ?_
      refine .reg ?_
      refine .as ?_
      refine .go ?_
      refine .r1 fun w hs => ?_
      exact ⟨rfl, hs.rows.rows⟩
    · rw [if_neg (of_decide_eq_false hc)]
      refine .go ?_
      refine .seq ?_
      refine .reg ?_
      refine .as ?_
      refine .go ?_
      refine .r1 fun w hs => ?_
      exact ⟨rfl, hs.rows.rows⟩
theorem againT_tr (a old : Transfer) (κ : Kap) (cs : List HProp) : Tr Tryd.prog 63 [.agg (encT a).toArray, .agg (encT old).toArray] κ cs (.int .i64 (againT a old)) cs := by
  refine .enter Tryd.func63 rfl rfl ?_
  unfold againT
  refine .seq ?_
  refine .reg ?_
  refine .bx fun b2 => ?_
  refine .bx fun b3 => ?_
  refine .as ?_
  refine .go ?_
  refine .seq ?_
  refine .block ?_
  refine .seq ?_
  refine .reg ?_
  refine .fa ?_
  refine .ld ?_
  refine .ano ?_
  refine .fa ?_
  refine .ld ?_
  refine .ano ?_
  refine .ne ?_
  refine .as ?_
  refine .go ?_
  have dn : ∀ {a b : Num}, (!decide (a = b)) = true → a ≠ b := fun h => by simpa using h
  have df : ∀ {a b : Num}, (!decide (a = b)) = false → ¬ a ≠ b := fun h => by simpa using h
  refine .cond rfl (fun hc => ?_) (fun hc => ?_)   -- t5
  · rw [if_pos (of_decide_eq_true hc)]
    refine .seq ?_
    refine .reg ?_
    refine .as ?_
    refine .go ?_
    refine .r1 fun w hs => ?_
    exact ⟨rfl, hs.rows.rows⟩
  · rw [if_neg (of_decide_eq_false hc)]
    refine .seq ?_
    refine .reg ?_
    refine .fa ?_
    refine .ld ?_
    refine .fa ?_
    refine .ld ?_
    refine .nen a.debit old.debit ?_
    refine .as ?_
    refine .go ?_
    refine .cond rfl (fun hc => ?_) (fun hc => ?_)   -- t13
    · rw [if_pos (dn hc)]
      refine .seq ?_
      refine .reg ?_
      refine .as ?_
      refine .go ?_
      refine .r1 fun w hs => ?_
      exact ⟨rfl, hs.rows.rows⟩
    · rw [if_neg (df hc)]
      refine .seq ?_
      refine .reg ?_
      refine .fa ?_
      refine .ld ?_
      refine .fa ?_
      refine .ld ?_
      refine .nen a.credit old.credit ?_
      refine .as ?_
      refine .go ?_
      refine .cond rfl (fun hc => ?_) (fun hc => ?_)   -- t19
      · rw [if_pos (dn hc)]
        refine .seq ?_
        refine .reg ?_
        refine .as ?_
        refine .go ?_
        refine .r1 fun w hs => ?_
        exact ⟨rfl, hs.rows.rows⟩
      · rw [if_neg (df hc)]
        refine .seq ?_
        refine .reg ?_
        refine .fa ?_
        refine .ld ?_
        refine .fa ?_
        refine .ld ?_
        refine .nen a.amount old.amount ?_
        refine .as ?_
        refine .go ?_
        refine .cond rfl (fun hc => ?_) (fun hc => ?_)   -- t25
        · rw [if_pos (dn hc)]
          refine .seq ?_
          refine .reg ?_
          refine .as ?_
          refine .go ?_
          refine .r1 fun w hs => ?_
          exact ⟨rfl, hs.rows.rows⟩
        · rw [if_neg (df hc)]
          refine .seq ?_
          refine .reg ?_
          refine .fa ?_
          refine .ld ?_
          refine .fa ?_
          refine .ld ?_
          refine .nen a.pid old.pid ?_
          refine .as ?_
          refine .go ?_
          refine .cond rfl (fun hc => ?_) (fun hc => ?_)   -- t31
          · rw [if_pos (dn hc)]
            refine .seq ?_
            refine .reg ?_
            refine .as ?_
            refine .go ?_
            refine .r1 fun w hs => ?_
            exact ⟨rfl, hs.rows.rows⟩
          · rw [if_neg (df hc)]
            refine .seq ?_
            refine .reg ?_
            refine .fa ?_
            refine .ld ?_
            refine .fa ?_
            refine .ld ?_
            refine .ne ?_
            refine .as ?_
            refine .go ?_
            refine .cond rfl (fun hc => ?_) (fun hc => ?_)   -- t37
            · rw [if_pos (of_decide_eq_true hc)]
              refine .seq ?_
              refine .reg ?_
              refine .as ?_
              refine .go ?_
              refine .r1 fun w hs => ?_
              exact ⟨rfl, hs.rows.rows⟩
            · rw [if_neg (of_decide_eq_false hc)]
              refine .seq ?_
              refine .reg ?_
              refine .fa ?_
              refine .ld ?_
              refine .fa ?_
              refine .ld ?_
              refine .ne ?_
              refine .as ?_
              refine .go ?_
              refine .cond rfl (fun hc => ?_) (fun hc => ?_)   -- t43
              · rw [if_pos (of_decide_eq_true hc)]
                refine .seq ?_
                refine .reg ?_
                refine .as ?_
                refine .go ?_
                refine .r1 fun w hs => ?_
                exact ⟨rfl, hs.rows.rows⟩
              · rw [if_neg (of_decide_eq_false hc)]
                refine .go ?_
                refine .seq ?_
                refine .reg ?_
                refine .as ?_
                refine .go ?_
                refine .r1 fun w hs => ?_
                exact ⟨rfl, hs.rows.rows⟩
def cntF (f : Int) (l : List Int) : Nat := (l.filter fun x => band f x ≠ 0).length
theorem one_tr (f : Int) (l : List Int) (hl : l.length < 2147483648) (p : Option Addr) (cap : Nat) (κ : Kap) (cs : List HProp) (hr : RdS cs p (l.map fun z => .int .i64 z)) :
    Tr Tryd.prog 53 [.int .i64 f, .slice p l.length cap] κ cs (.bool (oneF f l)) cs := by
  refine .enter Tryd.func53 rfl rfl ?_
  refine .seq ?_
  refine .reg ?_
  refine .as ?_
  refine .go ?_
  refine .seq ?_
  refine .reg ?_
  refine .as ?_
  refine .go ?_
  refine .seq ?_
  refine .seq ?_
  refine .reg ?_
  refine .mv ?_
  refine .ln ?_
  refine .mv ?_
  refine .go ?_
  refine .block ?_
  refine .lp (fun i : Nat => [(0, .int .i64 f), (5, .int .i64 (cntF f (l.take i))), (8, .slice p l.length cap), (9, .int .i64 l.length), (10, .int .i64 i)])
    (fun i => cs) (fun i => i ≤ l.length ∧ cntF f (l.take i) ≤ i) (fun i => l.length - i) 0 ⟨by omega, by simp [cntF]⟩ (by repeat (first | exact trivial | refine ⟨rfl, ?_⟩)) rfl fun i hi => ?_
  refine .seq ?_
  refine .reg ?_
  refine .lt ?_
  refine .go ?_
  refine .seq ?_
  refine .cond rfl (fun hc => ?_) (fun hc => ?_)   -- t11
  · refine .go ?_
    have hlt : i < l.length := by simpa using hc
    rcases hr with hr | ⟨b, o, rfl, hr⟩
    · simp at hr; subst hr; simp at hlt
    have hcnt : cntF f (l.take (i + 1)) = cntF f (l.take i) + if band f l[i] ≠ 0 then 1 else 0 := by
      unfold cntF
      rw [List.take_succ_eq_append_getElem hlt, List.filter_append, List.length_append]
      congr 1
      by_cases hz : band f l[i] = 0 <;> simp [hz]
    have hget : getV false (l.map fun z => Value.int .i64 z) (i * 1 + 0) 1 = some (.int .i64 l[i]) := by
      simp [getV, get1_eq, hlt]
    refine .seq ?_
    refine .block ?_
    refine .seq ?_
    refine .reg ?_
    refine .ix ?_
    refine .lx hget ?_
    refine .as ?_
    refine .go ?_
    refine .seq ?_
    refine .reg ?_
    refine .mv ?_
    refine .mv ?_
    refine .an ?_
    refine .ne ?_
    refine .go ?_
    refine .cond rfl (fun hc => ?_) (fun hc => ?_)   -- t17
    · refine .reg ?_
      refine .mv ?_
      refine .ad ?_
      refine .as ?_
      refine .go ?_
      refine .reg ?_
      refine .ad ?_
      refine .mv ?_
      have hz : band f l[i] ≠ 0 := of_decide_eq_true hc
      rw [if_pos hz] at hcnt
      rw [show ((cntF f (l.take i) : Nat) : Int) + 1 = ((cntF f (l.take (i + 1)) : Nat) : Int) by omega, show (i : Int) + 1 = ((i + 1 : Nat) : Int) by omega]
      exact .nil fun aa w hf hs => ⟨i + 1, ⟨by omega, by omega⟩, by omega, hf.to (by repeat (first | exact trivial | refine ⟨rfl, ?_⟩)), hs⟩
    · refine .go ?_
      refine .reg ?_
      refine .ad ?_
      refine .mv ?_
      have hz : ¬ band f l[i] ≠ 0 := of_decide_eq_false hc
      rw [if_neg hz] at hcnt
      rw [show cntF f (l.take i) = cntF f (l.take (i + 1)) by omega, show (i : Int) + 1 = ((i + 1 : Nat) : Int) by omega]
      exact .nil fun aa w hf hs => ⟨i + 1, ⟨by omega, by omega⟩, by omega, hf.to (by repeat (first | exact trivial | refine ⟨rfl, ?_⟩)), hs⟩
  · refine .xgo ?_
    refine .seq ?_
    refine .reg ?_
    refine .mv ?_
    refine .le ?_
    refine .as ?_
    refine .go ?_
    refine .r1 fun w hs => ?_
    have hi' : i = l.length := by
      have : ¬ (i : Int) < l.length := of_decide_eq_false hc
      omega
    refine ⟨?_, hs⟩
    subst hi'
    rw [List.take_length]
    unfold oneF cntF
    congr 2
    rw [decide_eq_decide]; omega

def badT (t : Transfer) : Bool :=
  decide (t.flags < 0) || decide (255 < t.flags) || !oneF t.flags [2, 4, 8] || (decide (band t.flags 192 ≠ 0) && decide (band t.flags 2 = 0)) || (decide (band t.flags 48 ≠ 0) && secondT t)
theorem ruleT_tr (t : Transfer) (κ : Kap) (cs : List HProp) : Tr Tryd.prog 28 [.agg (encT t).toArray] κ cs (.int .i64 (ruleT t)) cs := by
  refine .enter Tryd.func28 rfl rfl ?_
  refine .seq ?_
  refine .reg ?_
  refine .bx fun b1 => ?_
  refine .as ?_
  refine .go ?_
  refine .seq ?_
  refine .reg ?_
  refine .fa ?_
  refine .ld ?_
  refine .an ?_
  refine .ne ?_
  refine .as ?_
  refine .go ?_
  refine .seq ?_
  refine .reg ?_
  refine .fa ?_
  refine .ld ?_
  refine .an ?_
  refine .ne ?_
  refine .as ?_
  refine .go ?_
  refine .seq ?_
  refine .reg ?_
  refine .fa ?_
  refine .ld ?_
  refine .an ?_
  refine .ne ?_
  refine .as ?_
  refine .go ?_
  refine .seq ?_
  refine .block ?_
  refine .seq ?_
  refine .regD [(b1, 0, vc (.agg (encT t).toArray))] [] ?_
  refine .fa 0 ?_
  refine .ld 1 ?_
  refine .cl 2 (zero_tr κ _) ?_
  refine .eqn 3 t.id 0 ?_
  refine .as 4 ?_
  refine .go ?_
  have key : ruleT t = if t.id = 0 then 3 else if badT t = true then 4 else if secondT t ≠ decide (t.pid ≠ 0) ∨ (secondT t = true ∧ t.pid = t.id) then 18 else if t.timeout ≠ 0 ∧ band t.flags 2 = 0 then 19 else 0 := by
    unfold ruleT badT
    simp only [Bool.or_eq_true, Bool.and_eq_true, decide_eq_true_eq, Bool.not_eq_true', gt_iff_lt, or_assoc]
  rw [key]
  refine .cond rfl (fun hc => ?_) (fun hc => ?_)   -- t18
  · refine .seq ?_
    refine .reg ?_
    refine .as ?_
    refine .go ?_
    refine .r1 fun w hs => ?_
    exact ⟨by rw [if_pos (of_decide_eq_true hc)], hs.rows⟩
  · rw [if_neg (of_decide_eq_false hc)]
    refine .jn (ι := Bool) (fun i => [(1, .pointer (some ⟨b1, 0, none⟩)), (3, .bool (secondT t)), (23, .bool i)]) (fun i => pts b1 (43, vc (.agg (encT t).toArray)) :: cs) (fun i => i = badT t) ?_ (fun i hi => ?_)
    · refine .reg ?_
      refine .fa ?_
      refine .ld ?_
      refine .lt ?_
      refine .mv ?_
      refine .cut 4 (ι := Bool) (fun i => [(1, .pointer (some ⟨b1, 0, none⟩)), (3, .bool (secondT t)), (4, .bool (decide (band t.flags 192 ≠ 0))), (5, .bool (decide (band t.flags 48 ≠ 0))), (31, .bool i)])
        (fun i => pts b1 (43, vc (.agg (encT t).toArray)) :: cs) (fun i => i = (decide (t.flags < 0) || decide (255 < t.flags))) ?_ (fun i hi => ?_)
      · refine .caseB 27 rfl (fun h1 => ?_) (fun h1 => ?_)
        · repeat refine .skip ?_
          first | refine .pt ?_ | refine .pf ?_
          exact .nil fun aa w hf hs => ⟨true, by rw [h1]; rfl, hf.to (by repeat (first | exact trivial | refine ⟨rfl, ?_⟩)), hs⟩
        · refine .fa ?_
          refine .ld ?_
          refine .gt ?_
          first | refine .pt ?_ | refine .pf ?_
          exact .nil fun aa w hf hs => ⟨decide (255 < t.flags), by rw [h1]; rfl, hf.to (by repeat (first | exact trivial | refine ⟨rfl, ?_⟩)), hs⟩
      · refine .mv ?_
        refine .cut 6 (ι := Bool) (fun i => [(1, .pointer (some ⟨b1, 0, none⟩)), (3, .bool (secondT t)), (4, .bool (decide (band t.flags 192 ≠ 0))), (5, .bool (decide (band t.flags 48 ≠ 0))), (38, .bool i)])
          (fun i => pts b1 (43, vc (.agg (encT t).toArray)) :: cs) (fun i => i = (decide (t.flags < 0) || decide (255 < t.flags) || !oneF t.flags [2, 4, 8])) ?_ (fun i hi => ?_)
        · refine .caseB 32 rfl (fun h1 => ?_) (fun h1 => ?_)
          · repeat refine .skip ?_
            first | refine .pt ?_ | refine .pf ?_
            exact .nil fun aa w hf hs => ⟨true, by rw [← hi, h1]; rfl, hf.to (by repeat (first | exact trivial | refine ⟨rfl, ?_⟩)), hs⟩
          · refine .fa ?_
            refine .ld ?_
            refine .bs fun b35 => ?_
            refine .cl (one_tr t.flags [2, 4, 8] (by decide) _ _ κ _ .of) ?_
            refine .nt ?_
            first | refine .pt ?_ | refine .pf ?_
            exact .nil fun aa w hf hs => ⟨!oneF t.flags [2, 4, 8], by rw [← hi, h1]; rfl, hf.to (by repeat (first | exact trivial | refine ⟨rfl, ?_⟩)), hs.rows⟩
        · refine .mv ?_
          refine .cut 8 (ι := Bool) (fun i => [(1, .pointer (some ⟨b1, 0, none⟩)), (3, .bool (secondT t)), (5, .bool (decide (band t.flags 48 ≠ 0))), (47, .bool i)])
            (fun i => pts b1 (43, vc (.agg (encT t).toArray)) :: cs) (fun i => i = (decide (t.flags < 0) || decide (255 < t.flags) || !oneF t.flags [2, 4, 8] || (decide (band t.flags 192 ≠ 0) && decide (band t.flags 2 = 0)))) ?_ (fun j hj => ?_)
          · refine .caseB 39 rfl (fun h1 => ?_) (fun h1 => ?_)
            · repeat refine .skip ?_
              first | refine .pt ?_ | refine .pf ?_
              exact .nil fun aa w hf hs => ⟨true, by rw [← hi, h1]; rfl, hf.to (by repeat (first | exact trivial | refine ⟨rfl, ?_⟩)), hs⟩
            · refine .mv ?_
              refine .mv ?_
              refine .caseB 41 rfl (fun h2 => ?_) (fun h2 => ?_)
              · refine .fa ?_
                refine .ld ?_
                refine .an ?_
                refine .eq ?_
                first | refine .pt ?_ | refine .pf ?_
                first | refine .pt ?_ | refine .pf ?_
                exact .nil fun aa w hf hs => ⟨decide (band t.flags 2 = 0), by rw [← hi, h1, h2]; rfl, hf.to (by repeat (first | exact trivial | refine ⟨rfl, ?_⟩)), hs⟩
              · repeat refine .skip ?_
                first | refine .pt ?_ | refine .pf ?_
                first | refine .pt ?_ | refine .pf ?_
                exact .nil fun aa w hf hs => ⟨false, by rw [← hi, h1, h2]; rfl, hf.to (by repeat (first | exact trivial | refine ⟨rfl, ?_⟩)), hs⟩
          · refine .mv ?_
            refine .caseB 48 rfl (fun h1 => ?_) (fun h1 => ?_)
            · repeat refine .skip ?_
              first | refine .pt ?_ | refine .pf ?_
              refine .as ?_
              exact .nil fun aa w hf hs => ⟨true, by unfold badT; rw [← hj, h1]; rfl, hf.to (by repeat (first | exact trivial | refine ⟨rfl, ?_⟩)), hs⟩
            · refine .mv ?_
              refine .mv ?_
              refine .caseB 50 rfl (fun h2 => ?_) (fun h2 => ?_)
              · refine .mv ?_
                first | refine .pt ?_ | refine .pf ?_
                first | refine .pt ?_ | refine .pf ?_
                refine .as ?_
                exact .nil fun aa w hf hs => ⟨secondT t, by unfold badT; rw [← hj, h1, h2]; rfl, hf.to (by repeat (first | exact trivial | refine ⟨rfl, ?_⟩)), hs⟩
              · repeat refine .skip ?_
                first | refine .pt ?_ | refine .pf ?_
                first | refine .pt ?_ | refine .pf ?_
                refine .as ?_
                exact .nil fun aa w hf hs => ⟨false, by unfold badT; rw [← hj, h1, h2]; rfl, hf.to (by repeat (first | exact trivial | refine ⟨rfl, ?_⟩)), hs⟩
    · subst hi
      refine .cond rfl (fun hc => ?_) (fun hc => ?_)   -- t23
      · rw [if_pos hc]
        refine .seq ?_
        refine .reg ?_
        refine .as ?_
        refine .go ?_
        refine .r1 fun w hs => ?_
        exact ⟨rfl, hs.rows⟩
      · rw [if_neg (by rw [hc]; simp)]
        refine .jn (ι := Bool) (fun i => [(1, .pointer (some ⟨b1, 0, none⟩)), (54, .bool i)]) (fun i => pts b1 (43, vc (.agg (encT t).toArray)) :: cs) (fun i => i = true ↔ (secondT t ≠ decide (t.pid ≠ 0) ∨ (secondT t = true ∧ t.pid = t.id))) ?_ (fun i hi => ?_)
        · refine .regD [(b1, 0, vc (.agg (encT t).toArray))] [] ?_
          refine .mv 0 ?_
          refine .fa 1 ?_
          refine .ld 2 ?_
          refine .cl 3 (zero_tr κ _) ?_
          refine .nen 4 t.pid 0 ?_
          refine .neb 5 ?_
          refine .mv 6 ?_
          refine .caseB 61 rfl (fun h1 => ?_) (fun h1 => ?_)
          · refine .skip 7 ?_
            refine .skip 8 ?_
            refine .skip 9 ?_
            refine .skip 10 ?_
            refine .skip 11 ?_
            refine .skip 12 ?_
            refine .skip 13 ?_
            refine .skip 14 ?_
            refine .pt 15 ?_
            refine .as 16 ?_
            exact .nil fun aa w hf hs => ⟨true, ⟨fun _ => .inl (by simpa using h1), fun _ => rfl⟩, hf.to (by repeat (first | exact trivial | refine ⟨rfl, ?_⟩)), hs⟩
          · refine .mv 7 ?_
            refine .mv 8 ?_
            have h1 : secondT t = decide (t.pid ≠ 0) := by simpa using h1
            refine .caseB 63 rfl (fun h2 => ?_) (fun h2 => ?_)
            · refine .fa 9 ?_
              refine .ld 10 ?_
              refine .fa 11 ?_
              refine .ld 12 ?_
              refine .eqn 13 t.pid t.id ?_
              refine .pt 14 ?_
              refine .pf 15 ?_
              refine .as 16 ?_
              exact .nil fun aa w hf hs => ⟨decide (t.pid = t.id), ⟨fun h => .inr ⟨h2, of_decide_eq_true h⟩, fun h => h.elim (fun h => absurd h1 h) fun h => decide_eq_true h.2⟩, hf.to (by repeat (first | exact trivial | refine ⟨rfl, ?_⟩)), hs⟩
            · refine .skip 9 ?_
              refine .skip 10 ?_
              refine .skip 11 ?_
              refine .skip 12 ?_
              refine .skip 13 ?_
              refine .pf 14 ?_
              refine .pf 15 ?_
              refine .as 16 ?_
              exact .nil fun aa w hf hs => ⟨false, ⟨fun h => (by cases h), fun h => h.elim (fun h => absurd h1 h) fun h => (by rw [h2] at h; cases h.1)⟩, hf.to (by repeat (first | exact trivial | refine ⟨rfl, ?_⟩)), hs⟩
        · refine .cond rfl (fun hc => ?_) (fun hc => ?_)   -- t54
          · rw [if_pos (hi.1 hc)]
            refine .seq ?_
            refine .reg ?_
            refine .as ?_
            refine .go ?_
            refine .r1 fun w hs => ?_
            exact ⟨rfl, hs.rows⟩
          · rw [if_neg (fun h => by rw [hi.2 h] at hc; cases hc)]
            refine .jn (ι := Bool) (fun i => [(1, .pointer (some ⟨b1, 0, none⟩)), (71, .bool i)]) (fun i => pts b1 (43, vc (.agg (encT t).toArray)) :: cs) (fun i => i = true ↔ (t.timeout ≠ 0 ∧ band t.flags 2 = 0)) ?_ (fun i hi => ?_)
            · refine .reg ?_
              refine .fa ?_
              refine .ld ?_
              refine .ne ?_
              refine .mv ?_
              refine .caseB 75 rfl (fun h1 => ?_) (fun h1 => ?_)
              · refine .fa ?_
                refine .ld ?_
                refine .an ?_
                refine .eq ?_
                first | refine .pt ?_ | refine .pf ?_
                refine .as ?_
                exact .nil fun aa w hf hs => ⟨decide (band t.flags 2 = 0), ⟨fun h => ⟨of_decide_eq_true h1, of_decide_eq_true h⟩, fun h => decide_eq_true h.2⟩, hf.to (by repeat (first | exact trivial | refine ⟨rfl, ?_⟩)), hs⟩
              · repeat refine .skip ?_
                first | refine .pt ?_ | refine .pf ?_
                refine .as ?_
                exact .nil fun aa w hf hs => ⟨false, ⟨fun h => (by cases h), fun h => absurd h.1 (of_decide_eq_false h1)⟩, hf.to (by repeat (first | exact trivial | refine ⟨rfl, ?_⟩)), hs⟩
            · refine .cond rfl (fun hc => ?_) (fun hc => ?_)   -- t71
              · rw [if_pos (hi.1 hc)]
                refine .seq ?_
                refine .reg ?_
                refine .as ?_
                refine .go ?_
                refine .r1 fun w hs => ?_
                exact ⟨rfl, hs.rows⟩
              · rw [if_neg (fun h => by rw [hi.2 h] at hc; cases hc)]
                refine .go ?_
                refine .seq ?_
                refine .reg ?_
                refine .as ?_
                refine .go ?_
                refine .r1 fun w hs => ?_
                exact ⟨rfl, hs.rows⟩
end Go.Proofs.YtpcechnalfaajaaDoor

/- index: place. -/
namespace Go.Proofs.YtpcechnalfaajaaDoor
open Go Go.Proofs

def placeN (key : Num) : List Num → Nat × Bool
  | [] => (0, false)
  | k :: t => if key.toNat ≤ k.toNat then (0, decide (k = key)) else ((placeN key t).1 + 1, (placeN key t).2)
theorem placeN_at (key : Num) : ∀ (ks : List Num) (i : Nat) (h : i < ks.length), (∀ j (hj : j < i), (ks[j]'(by omega)).toNat < key.toNat) → key.toNat ≤ ks[i].toNat → placeN key ks = (i, decide (ks[i] = key)) := by
  intro ks
  induction ks with
  | nil => intro i h; simp at h
  | cons k t ih =>
    intro i h hlt hge
    cases i with
    | zero => simp only [placeN]; rw [if_pos (by simpa using hge)]; rfl
    | succ i =>
      have h0 := hlt 0 (by omega)
      simp only [List.getElem_cons_zero] at h0
      have := ih i (by simpa using h) (fun j hj => by simpa using hlt (j + 1) (by omega)) (by simpa using hge)
      simp only [placeN]
      rw [if_neg (by omega), this]
      rfl
theorem placeN_none (key : Num) : ∀ (ks : List Num), (∀ j (hj : j < ks.length), ks[j].toNat < key.toNat) → placeN key ks = (ks.length, false) := by
  intro ks
  induction ks with
  | nil => intro _; rfl
  | cons k t ih =>
    intro hlt
    have h0 := hlt 0 (by simp)
    simp only [List.getElem_cons_zero] at h0
    have := ih (fun j hj => by have := hlt (j + 1) (by simpa using hj); simpa only [List.getElem_cons_succ] using this)
    simp only [placeN]
    rw [if_neg (by omega), this]; rfl
theorem place_tr (bn : Nat) (ks : List Num) (hk : ks.length < 1000) (key : Num) (p : Option Addr) (c : Nat) (v2 v3 : Value) (κ : Kap) (cs : List HProp) [hb : Rd bn cs [.slice p ks.length c, v2, v3]] (hr : RdS cs p (ks.flatMap nm)) :
    Tr Tryd.prog 68 [.pointer (some ⟨bn, 0, none⟩), .agg (nm key).toArray] κ cs (.tuple #[.int .i64 ((placeN key ks).1 : Nat), .bool (placeN key ks).2]) cs := by
  refine .enter Tryd.func68 rfl rfl ?_
  refine .seq ?_
  refine .reg ?_
  refine .bx fun b3 => ?_
  refine .as ?_
  refine .as ?_
  refine .go ?_
  refine .seq ?_
  refine .seq ?_
  refine .reg ?_
  refine .mv ?_
  refine .nc ?_
  refine .fa ?_
  refine .ld ?_
  refine .ln ?_
  refine .mv ?_
  refine .go ?_
  refine .block ?_
  refine .lp (fun i : Nat => [(0, .pointer (some ⟨bn, 0, none⟩)), (3, .pointer (some ⟨b3, 0, none⟩)), (12, .slice p ks.length c), (13, .int .i64 ks.length), (14, .int .i64 i)])
    (fun i => pts b3 (24, vc (.agg (nm key).toArray)) :: cs) (fun i => i ≤ ks.length ∧ ∀ j (hj : j < ks.length), j < i → ks[j].toNat < key.toNat) (fun i => ks.length - i) 0 ⟨by omega, fun j _ h => by omega⟩ (by repeat (first | exact trivial | refine ⟨rfl, ?_⟩)) rfl fun i hi => ?_
  refine .seq ?_
  refine .reg ?_
  refine .lt ?_
  refine .go ?_
  refine .seq ?_
  refine .cond rfl (fun hc => ?_) (fun hc => ?_)   -- t15
  · have hlt : i < ks.length := by have : (i : Int) < ks.length := of_decide_eq_true hc; omega
    rcases hr with hr | ⟨bk, o, rfl, hr⟩
    · have := congrArg List.length hr
      rw [flat_len nm 2 nm_len, List.length_nil] at this
      omega
    have hg : getV true (ks.flatMap nm) (((i : Nat) : Int).toNat * 2) 2 = some (.agg (nm ks[i]).toArray) := by
      have := flat_get nm 2 nm_len ks i 0 2 true (.agg (nm ks[i]).toArray) hlt rfl
      simpa using this
    have hat := placeN_at key ks i hlt (fun j hj => hi.2 j (by omega) hj)
    have hnext : ks[i].toNat < key.toNat → ∀ j (hj : j < ks.length), j < i + 1 → ks[j].toNat < key.toNat := by
      intro h j hj hji
      by_cases hje : j = i
      · subst hje; exact h
      · exact hi.2 j hj (by omega)
    generalize ks[i] = x at *
    refine .go ?_
    refine .seq ?_
    refine .block ?_
    refine .seq ?_
    refine .reg ?_
    refine .mv ?_
    refine .ix ?_
    refine .lx hg ?_
    refine .al fun b7 => ?_
    refine .as ?_
    refine .stw ?_
    refine .go ?_
    refine .seq ?_
    refine .reg ?_
    refine .ldw ?_
    refine .ldw ?_
    rw [vc_agg, vc_agg]
    refine .cl (compare_tr x key κ _) ?_
    refine .as ?_
    refine .go ?_
    refine .seq ?_
    refine .reg ?_
    refine .mv ?_
    refine .ge ?_
    refine .go ?_
    have hw := cmp_ways x key
    generalize cmpN x key = z at *
    have he : (x = key) ↔ (x.toNat = key.toNat) := BitVec.toNat_eq
    refine .cond rfl (fun hc => ?_) (fun hc => ?_)   -- t23
    · have hz : (0 : Int) ≤ z := of_decide_eq_true hc
      rw [hat (by omega)]
      refine .seq ?_
      refine .reg ?_
      refine .mv ?_
      refine .mv ?_
      refine .eq ?_
      refine .as ?_
      refine .as ?_
      refine .go ?_
      refine .r2 (h := ⟨inferInstance, rfl, .t, .t⟩) fun w hs => ?_
      refine ⟨?_, hs.rows.rows⟩
      have : decide (z = 0) = decide (x = key) := by rw [decide_eq_decide, he]; omega
      rw [this]
    · have hz : ¬ (0 : Int) ≤ z := of_decide_eq_false hc
      refine .go ?_
      refine .reg ?_
      refine .ad ?_
      refine .mv ?_
      rw [show (i : Int) + 1 = ((i + 1 : Nat) : Int) by omega]
      exact .nil fun aa w hf hs => ⟨i + 1, ⟨by omega, hnext (by omega)⟩, by omega, hf.to (by repeat (first | exact trivial | refine ⟨rfl, ?_⟩)), hs.rows⟩
  · have hlen : i = ks.length := by have : ¬ (i : Int) < ks.length := of_decide_eq_false hc; omega
    rw [placeN_none key ks (fun j hj => hi.2 j hj (by omega))]
    refine .xgo ?_
    refine .seq ?_
    refine .reg ?_
    refine .mv ?_
    refine .nc ?_
    refine .fa ?_
    refine .ld ?_
    refine .ln ?_
    refine .as ?_
    refine .as ?_
    refine .go ?_
    refine .r2 (h := ⟨inferInstance, rfl, .t, .t⟩) fun w hs => ?_
    exact ⟨rfl, hs.rows⟩
end Go.Proofs.YtpcechnalfaajaaDoor

/- Trees of an index, in plain Lean: look-up; a kid among its rows. -/
namespace Go.Proofs.YtpcechnalfaajaaDoor
open Go Go.Proofs

mutual
def getT (key : Num) : Tree → Option Int
  | .node ks vs ts => if (placeN key ks).2 then some (vs.getD (placeN key ks).1 0) else getK key ts (placeN key ks).1
def getK (key : Num) : List Tree → Nat → Option Int
  | [], _ => none
  | t :: _, 0 => getT key t
  | _ :: ts, j + 1 => getK key ts j
end
mutual
def sizeT : Tree → Nat
  | .node _ _ ts => 1 + sizeK ts
def sizeK : List Tree → Nat
  | [] => 0
  | t :: ts => sizeT t + sizeK ts
end
mutual
/-- How many keys. -/
def cntT : Tree → Nat
  | .node ks _ ts => ks.length + cntK ts
def cntK : List Tree → Nat
  | [] => 0
  | t :: ts => cntT t + cntK ts
end
inductive Ok : Tree → Prop where
  | mk {ks : List Num} {vs : List Int} {ts : List Tree} (hv : vs.length = ks.length) (ht : ts = [] ∨ ts.length = ks.length + 1) (h : ∀ t ∈ ts, Ok t) : Ok (.node ks vs ts)
theorem placeN_le (key : Num) (ks : List Num) : (placeN key ks).1 ≤ ks.length ∧ ((placeN key ks).2 = true → (placeN key ks).1 < ks.length) := by
  induction ks with
  | nil => simp [placeN]
  | cons k t ih =>
    simp only [placeN]
    split
    · simp
    · simp only [List.length_cons]; exact ⟨by omega, fun h => by have := ih.2 h; omega⟩
theorem getK_at (key : Num) : ∀ (ts : List Tree) (j : Nat) (h : j < ts.length), getK key ts j = getT key ts[j] := by
  intro ts
  induction ts with
  | nil => intro j h; simp at h
  | cons t ts ih =>
    intro j h
    cases j with
    | zero => simp [getK]
    | succ j => simp only [getK, List.getElem_cons_succ]; exact ih j (by simpa using h)
theorem sizeK_at : ∀ (ts : List Tree) (j : Nat) (h : j < ts.length), sizeT ts[j] ≤ sizeK ts := by
  intro ts
  induction ts with
  | nil => intro j h; simp at h
  | cons t ts ih =>
    intro j h
    cases j with
    | zero => simp only [sizeK, List.getElem_cons_zero]; omega
    | succ j => have := ih j (by simpa using h); simp only [sizeK, List.getElem_cons_succ]; omega
theorem cntK_at : ∀ (ts : List Tree) (j : Nat) (h : j < ts.length), cntT ts[j] ≤ cntK ts := by
  intro ts
  induction ts with
  | nil => intro j h; simp at h
  | cons t ts ih =>
    intro j h
    cases j with
    | zero => simp only [cntK, List.getElem_cons_zero]; omega
    | succ j => have := ih j (by simpa using h); simp only [cntK, List.getElem_cons_succ]; omega
theorem kids_split : ∀ (ts : List Tree) (bs : List Nat) (j : Nat) (h : j < ts.length) (h' : j < bs.length),
    kidsP ts bs = kidsP (ts.take j) (bs.take j) ++ tn ts[j] bs[j] :: kidsP (ts.drop (j + 1)) (bs.drop (j + 1)) := by
  intro ts
  induction ts with
  | nil => intro bs j h; simp at h
  | cons t ts ih =>
    intro bs j h h'
    cases bs with
    | nil => simp at h'
    | cons b bs =>
      cases j with
      | zero => simp [kidsP]
      | succ j =>
        have := ih bs j (by simpa using h) (by simpa using h')
        simp only [kidsP, List.take_succ_cons, List.drop_succ_cons, List.getElem_cons_succ, List.cons_append]
        rw [this]
/-- A node's rows, and the other rows behind. -/
theorem node_out {κ : Kap} {ks : List Num} {vs : List Int} {ts : List Tree} {b : Nat} {cs : List HProp} {g : Hp} (h : sepL κ (tn (.node ks vs ts) b :: cs) g) :
    ∃ i : NodeI, (i.bs.length = ts.length ∧ (ts = [] → i.tp = none)) ∧ sepL κ (hdr b ks vs i (kidsP ts i.bs ++ cs)) g := by
  simp only [tn] at h
  obtain ⟨i, hi, h⟩ := exB_out h
  exact ⟨i, hi, h⟩
theorem node_in {κ : Kap} {ks : List Num} {vs : List Int} {ts : List Tree} {b : Nat} {cs : List HProp} {g : Hp} (i : NodeI) (hi : i.bs.length = ts.length ∧ (ts = [] → i.tp = none)) (h : sepL κ (hdr b ks vs i (kidsP ts i.bs ++ cs)) g) :
    sepL κ (tn (.node ks vs ts) b :: cs) g := by
  simp only [tn]
  exact exB_in i hi h
theorem hdr_in {κ : Kap} {b : Nat} {ks : List Num} {vs : List Int} {i : NodeI} {c : HProp} {A B : List HProp} {g : Hp} (h : sepL κ (c :: hdr b ks vs i (A ++ B)) g) : sepL κ (hdr b ks vs i (A ++ c :: B)) g :=
  sepL_tail (fun _ h => sepL_tail (fun _ h => sepL_tail (fun _ h => sepL_tail (fun _ h => sepL_in A h) (sepL_swap h)) (sepL_swap h)) (sepL_swap h)) (sepL_swap h)
theorem hdr_out {κ : Kap} {b : Nat} {ks : List Num} {vs : List Int} {i : NodeI} {c : HProp} {A B : List HProp} {g : Hp} (h : sepL κ (hdr b ks vs i (A ++ c :: B)) g) : sepL κ (c :: hdr b ks vs i (A ++ B)) g :=
  sepL_swap (sepL_tail (fun _ h => sepL_swap (sepL_tail (fun _ h => sepL_swap (sepL_tail (fun _ h => sepL_swap (sepL_tail (fun _ h => sepL_out A h) h)) h)) h)) h)
end Go.Proofs.YtpcechnalfaajaaDoor

/- Trees of an index, in plain Lean: put, part; what they keep. -/
namespace Go.Proofs.YtpcechnalfaajaaDoor
open Go Go.Proofs

def insAt {α : Type} (l : List α) (i : Nat) (x : α) : List α := l.take i ++ x :: l.drop i
/-- A kid is parted in two, its middle key between. -/
def partT : Tree → Nat → Tree
  | .node ks vs ts, i => match ts[i]? with
    | none => .node ks vs ts
    | some (.node lk lv lt) =>
      let m := lk.length / 2
      .node (insAt ks i (lk.getD m 0)) (insAt vs i (lv.getD m 0))
        (ts.take i ++ .node (lk.take m) (lv.take m) (lt.take (m + 1)) :: .node (lk.drop (m + 1)) (lv.drop (m + 1)) (lt.drop (m + 1)) :: ts.drop (i + 1))
def keysT : Tree → List Num
  | .node ks _ _ => ks
def fixT (i : Nat) (t : Tree) (kid : Tree) : Tree := if 5 < (keysT kid).length then partT t i else t
mutual
/-- Put: the tree behind it, and is the key new? -/
def putT (key : Num) (v : Int) : Tree → Tree × Bool
  | .node ks vs ts =>
    if (placeN key ks).2 then (.node ks (vs.set (placeN key ks).1 v) ts, false)
    else match ts with
      | [] => (.node (insAt ks (placeN key ks).1 key) (insAt vs (placeN key ks).1 v) [], true)
      | t :: ts' => let r := putK key v (t :: ts') (placeN key ks).1
        (fixT (placeN key ks).1 (.node ks vs r.1) (r.2.1), r.2.2)
/-- Put into the kid at a place: the kids behind it, that kid, and is the key new? -/
def putK (key : Num) (v : Int) : List Tree → Nat → List Tree × Tree × Bool
  | [], _ => ([], .node [] [] [], false)
  | t :: ts, 0 => ((putT key v t).1 :: ts, (putT key v t).1, (putT key v t).2)
  | t :: ts, j + 1 => (t :: (putK key v ts j).1, (putK key v ts j).2.1, (putK key v ts j).2.2)
end
theorem putK_at (key : Num) (v : Int) : ∀ (ts : List Tree) (j : Nat) (h : j < ts.length), putK key v ts j = (ts.set j (putT key v ts[j]).1, (putT key v ts[j]).1, (putT key v ts[j]).2) := by
  intro ts
  induction ts with
  | nil => intro j h; simp at h
  | cons t ts ih =>
    intro j h
    cases j with
    | zero => simp [putK]
    | succ j => simp only [putK, ih j (by simpa using h), List.set_cons_succ, List.getElem_cons_succ]
theorem putT_hit {key : Num} {v : Int} {ks : List Num} {vs : List Int} {ts : List Tree} (h : (placeN key ks).2 = true) : putT key v (.node ks vs ts) = (.node ks (vs.set (placeN key ks).1 v) ts, false) := by
  cases ts <;> simp [putT, h]
theorem putT_leaf {key : Num} {v : Int} {ks : List Num} {vs : List Int} (h : (placeN key ks).2 = false) : putT key v (.node ks vs []) = (.node (insAt ks (placeN key ks).1 key) (insAt vs (placeN key ks).1 v) [], true) := by
  simp [putT, h]
theorem putT_kid {key : Num} {v : Int} {ks : List Num} {vs : List Int} {ts : List Tree} (h : (placeN key ks).2 = false) (hj : (placeN key ks).1 < ts.length) :
    putT key v (.node ks vs ts) = (fixT (placeN key ks).1 (.node ks vs (ts.set (placeN key ks).1 (putT key v ts[(placeN key ks).1]).1)) (putT key v ts[(placeN key ks).1]).1, (putT key v ts[(placeN key ks).1]).2) := by
  cases ts with
  | nil => simp at hj
  | cons t ts =>
    conv => lhs; simp only [putT, h, Bool.false_eq_true, if_false]
    rw [putK_at key v (t :: ts) _ hj]
/-- What the tree holds, in order. -/
def wr : List Num → List Int → List (List (Num × Int)) → List (Num × Int)
  | k :: ks, v :: vs, x :: xs => (k, v) :: (x ++ wr ks vs xs)
  | _, _, _ => []
def weave (ks : List Num) (vs : List Int) : List (List (Num × Int)) → List (Num × Int)
  | [] => ks.zip vs
  | x :: xs => x ++ wr ks vs xs
mutual
def flatT : Tree → List (Num × Int)
  | .node ks vs ts => weave ks vs (flatK ts)
def flatK : List Tree → List (List (Num × Int))
  | [] => []
  | t :: ts => flatT t :: flatK ts
end
end Go.Proofs.YtpcechnalfaajaaDoor

/- A node and one of its kids. -/
namespace Go.Proofs.YtpcechnalfaajaaDoor
open Go Go.Proofs

/-- The rows of a node and of one of its kids. -/
theorem two_out {κ : Kap} {ks : List Num} {vs : List Int} {ts : List Tree} {b : Nat} {cs : List HProp} {g : Hp} {j : Nat} (hj : j < ts.length) {lk : List Num} {lv : List Int} {lt : List Tree} (ht : ts[j] = .node lk lv lt)
    (h : sepL κ (tn (.node ks vs ts) b :: cs) g) :
    ∃ x : NodeI × NodeI × Nat, ((x.1.bs.length = ts.length ∧ (ts = [] → x.1.tp = none)) ∧ (x.2.1.bs.length = lt.length ∧ (lt = [] → x.2.1.tp = none)) ∧ x.1.bs[j]? = some x.2.2) ∧
      sepL κ (hdr x.2.2 lk lv x.2.1 (hdr b ks vs x.1 (kidsP lt x.2.1.bs ++ (kidsP (ts.take j) (x.1.bs.take j) ++ (kidsP (ts.drop (j + 1)) (x.1.bs.drop (j + 1)) ++ cs))))) g := by
  obtain ⟨i, hi, h⟩ := node_out h
  have hjb : j < i.bs.length := by omega
  rw [kids_split ts i.bs j hj hjb, List.append_assoc, List.cons_append, ht] at h
  have h2 := hdr_out h
  obtain ⟨il, hil, h3⟩ := node_out h2
  refine ⟨(i, il, i.bs[j]), ⟨hi, hil, by simp [hjb]⟩, ?_⟩
  refine sepL_tail (fun g h => sepL_tail (fun g h => sepL_tail (fun g h => sepL_tail (fun g h => ?_) h) h) h) h3
  -- the kids' rows behind the node's own ones
  have mv : ∀ (X : List HProp) {A : List HProp} {g : Hp}, sepL κ (X ++ hdr b ks vs i A) g → sepL κ (hdr b ks vs i (X ++ A)) g := by
    intro X A g h
    exact sepL_tail (fun g h => sepL_tail (fun g h => sepL_tail (fun g h => sepL_out X h) (sepL_out X h)) (sepL_out X h)) (sepL_out X h)
  exact mv _ h
theorem kidsP_app : ∀ (a : List Tree) (c : List Nat) (b : List Tree) (d : List Nat), a.length = c.length → kidsP (a ++ b) (c ++ d) = kidsP a c ++ kidsP b d := by
  intro a
  induction a with
  | nil => intro c b d h; have : c = [] := List.eq_nil_of_length_eq_zero h.symm; subst this; rfl
  | cons t a ih =>
    intro c b d h
    cases c with
    | nil => simp at h
    | cons x c => simp only [List.cons_append, kidsP, ih c b d (by simpa using h)]
/-- Two kids in the place of one. -/
theorem three_in {κ : Kap} {ks : List Num} {vs : List Int} {ts : List Tree} {b : Nat} {cs : List HProp} {g : Hp} {j : Nat} (hj : j < ts.length) {l r : Tree} {bl br : Nat} {bs : List Nat} (i : NodeI) (hb : bs.length = ts.length) (hi : i.bs = bs.take j ++ bl :: br :: bs.drop (j + 1))
    (h : sepL κ (tn l bl :: tn r br :: hdr b ks vs i (kidsP (ts.take j) (bs.take j) ++ (kidsP (ts.drop (j + 1)) (bs.drop (j + 1)) ++ cs))) g) :
    sepL κ (tn (.node ks vs (ts.take j ++ l :: r :: ts.drop (j + 1))) b :: cs) g := by
  refine node_in i ⟨by rw [hi]; simp; omega, fun h => by simp at h⟩ ?_
  rw [hi, kidsP_app _ _ _ _ (by simp; omega)]
  simp only [kidsP]
  rw [List.append_assoc, List.cons_append, List.cons_append]
  exact hdr_in (sepL_tail (fun g h => hdr_in h) h)
end Go.Proofs.YtpcechnalfaajaaDoor

/- Beginnings and ends of slices. -/
namespace Go.Proofs.YtpcechnalfaajaaDoor
open Go Go.Proofs

theorem slHead {κ : Kap} {w : World} {cs : List HProp} {p : Option Addr} {n0 cap sz : Nat} {x : TypeId × List Value} {F : HProp → List HProp} (h : Ob (sl sz) (.slice p n0 cap) cs x F) (hs : Sat κ w cs) : cap = 0 ∨ ∃ b, p = some ⟨b, 0, none⟩ := by
  rcases Nat.eq_zero_or_pos cap with h0 | h0
  · exact .inl h0
  · exact .inr (Sat.slSome (o := h) hs h0)
theorem cut0 {p : Option Addr} {cap m : Nat} (h : cap = 0 ∨ ∃ b, p = some ⟨b, 0, none⟩) : (if cap = 0 then p else p.map (·.add (0 * m))) = p := by
  rcases h with rfl | ⟨b, rfl⟩
  · simp
  · split
    · rfl
    · simp [Addr.add_plain]
theorem RdS.suf {cs : List HProp} {p : Option Addr} {l : List Value} {n0 cap m j : Nat} (h : RdS cs p l) (hl : l.length = n0 * m) (hc : n0 ≤ cap) (hj : j ≤ n0) :
    RdS cs (if cap = j then p else p.map (·.add (j * m))) (l.drop (j * m)) := by
  by_cases hd : l.drop (j * m) = []
  · exact .inl hd
  · rcases h with h | ⟨b, o, rfl, h⟩
    · subst h; simp at hd
    · have hlt : j < n0 := by
        rcases Nat.lt_or_ge j n0 with h' | h'
        · exact h'
        · exfalso; apply hd; rw [List.drop_eq_nil_iff, hl]; exact Nat.mul_le_mul_right m h'
      rw [if_neg (by omega)]
      exact .inr ⟨b, o + j * m, by rw [Option.map_some, Addr.add_plain], h.drop _ (by rw [hl]; exact Nat.mul_le_mul_right m hj)⟩
section
variable {P : Program} {ops : Array Oper} {Q : Exit → Act → World → Prop} {n : Nd} {κ : Kap} {rest : List Oper} {l : List Oper} {L : List Nat} {W : List (Nat × Nat × List Value)} {fuel : Nat} {done : List Nat} {fr : List (Nat × Value)} {cs : List HProp}
theorem Co.slh (p : Option Addr) (n0 cap sz : Nat) {c : Code} {x : TypeId × List Value} {F : HProp → List HProp} (k : (cap = 0 ∨ ∃ b, p = some ⟨b, 0, none⟩) → Co P Q n κ c fr cs) (h : Ob (sl sz) (.slice p n0 cap) cs x F := by infer_instance) : Co P Q n κ c fr cs :=
  fun a w hf hs => k (slHead h hs) a w hf hs
end
end Go.Proofs.YtpcechnalfaajaaDoor

/- Rows picked by their places; a list of rows as one. -/
namespace Go.Proofs.YtpcechnalfaajaaDoor
open Go Go.Proofs

def emp : HProp := fun _ _ => True
def atL : List HProp → Nat → Option HProp
  | [], _ => none
  | c :: _, 0 => some c
  | _ :: t, k + 1 => atL t k
def offL : List HProp → Nat → List HProp
  | [], _ => []
  | _ :: t, 0 => emp :: t
  | c :: t, k + 1 => c :: offL t k
def dropL : Nat → List HProp → Option (List HProp)
  | 0, l => some l
  | _ + 1, [] => none
  | k + 1, _ :: t => dropL k t
/-- The rows at these places, and all from the n-th on. -/
def pmL (n : Nat) : List Nat → List HProp → Option (List HProp)
  | [], cs => dropL n cs
  | k :: t, cs => match atL cs k, pmL n t (offL cs k) with
    | some c, some r => some (c :: r)
    | _, _ => none
theorem sepL_at {κ : Kap} : ∀ (cs : List HProp) (k : Nat) (c : HProp) (g : Hp), atL cs k = some c → sepL κ cs g → sepL κ (c :: offL cs k) g := by
  intro cs
  induction cs with
  | nil => intro k c g e; cases k <;> cases e
  | cons x t ih =>
    intro k c g e h
    cases k with
    | zero =>
      cases e
      obtain ⟨h1, h2, s1, s2, d, hc, hr⟩ := h
      exact ⟨h1, h2, s1, s2, d, hc, fun _ => none, h2, fun _ _ e => (by cases e), Sub.refl _, fun _ => .inl rfl, trivial, hr⟩
    | succ k => exact sepL_swap (sepL_tail (fun g h => ih k c g e h) h)
theorem sepL_dropL {κ : Kap} : ∀ (n : Nat) (cs r : List HProp) (g : Hp), dropL n cs = some r → sepL κ cs g → sepL κ r g := by
  intro n
  induction n with
  | zero => intro cs r g e h; cases e; exact h
  | succ n ih =>
    intro cs r g e h
    cases cs with
    | nil => cases e
    | cons c t => exact ih t r g e (sepL_sub_tail h)
theorem sepL_pm {κ : Kap} (n : Nat) : ∀ (idx : List Nat) (cs r : List HProp) (g : Hp), pmL n idx cs = some r → sepL κ cs g → sepL κ r g := by
  intro idx
  induction idx with
  | nil => intro cs r g e h; exact sepL_dropL n cs r g e h
  | cons k t ih =>
    intro cs r g e h
    simp only [pmL] at e
    cases h1 : atL cs k with
    | none => rw [h1] at e; cases e
    | some c =>
      cases h2 : pmL n t (offL cs k) with
      | none => rw [h1, h2] at e; cases e
      | some r' =>
        rw [h1, h2] at e; cases e
        exact sepL_tail (fun g h => ih _ _ g h2 h) (sepL_at cs k c g h1 h)
theorem pmh {κ : Kap} {g : Hp} {cs r : List HProp} (n : Nat) (idx : List Nat) (h : sepL κ cs g) (e : pmL n idx cs = some r := by rfl) : sepL κ r g := sepL_pm n idx cs r g e h
theorem Sat.pm {κ : Kap} {w : World} {cs r : List HProp} (n : Nat) (idx : List Nat) (h : Sat κ w cs) (e : pmL n idx cs = some r := by rfl) : Sat κ w r := h.imp fun g hg => sepL_pm n idx cs r g e hg
theorem sepL_swapl {κ : Kap} (F : List HProp) : ∀ (X : List HProp) {T : List HProp} {g : Hp}, sepL κ (F ++ (X ++ T)) g → sepL κ (X ++ (F ++ T)) g := by
  intro X
  induction X with
  | nil => intro T g h; exact h
  | cons x X ih => intro T g h; exact sepL_tail (fun g h => ih h) (sepL_out F h)
theorem sepL_tails {κ : Kap} {T T' : List HProp} (k : ∀ g, sepL κ T g → sepL κ T' g) : ∀ (F : List HProp) {g : Hp}, sepL κ (F ++ T) g → sepL κ (F ++ T') g := by
  intro F
  induction F with
  | nil => intro g h; exact k g h
  | cons x F ih => intro g h; exact sepL_tail (fun g h => ih h) h
/-- A node that was parted: its two halves. -/
theorem halves_in {κ : Kap} {g : Hp} {lk : List Num} {lv : List Int} {lt : List Tree} {il : NodeI} {m : Nat} (hm : m < lk.length) (h2 : lv.length = lk.length) (hil : il.bs.length = lt.length ∧ (lt = [] → il.tp = none)) (h3 : lt = [] ∨ lt.length = lk.length + 1)
    {bl br tcl c43 c51 tcr : Nat} {pk pv p43 p51 tpr : Option Addr} {A : HProp} {F Y : List HProp} (hq : lt = [] → tpr = none)
    (h : sepL κ (pts bl (130, [.slice pk m m, .slice pv m m, .slice il.tp (il.bs.take (m + 1)).length tcl]) :: sl 2 (.slice pk m m) (24, (lk.flatMap nm).take (m * 2)) :: sl 1 (.slice pv m m) (3, (cells .i64 lv).take (m * 1)) :: sl 1 (.slice il.tp (il.bs.take (m + 1)).length tcl) (84, (il.bs.take (m + 1)).map ptrV) ::
      pts br (130, [.slice p43 (lk.length - (m + 1)) c43, .slice p51 (lv.length - (m + 1)) c51, .slice tpr (il.bs.drop (m + 1)).length tcr]) :: sl 2 (.slice p43 (lk.length - (m + 1)) c43) (24, (lk.drop (m + 1)).flatMap nm) :: sl 1 (.slice p51 (lv.length - (m + 1)) c51) (3, cells .i64 (lv.drop (m + 1))) ::
      sl 1 (.slice tpr (il.bs.drop (m + 1)).length tcr) (84, (il.bs.drop (m + 1)).map ptrV) :: A :: (F ++ (kidsP lt il.bs ++ Y))) g) :
    sepL κ (tn (.node (lk.take m) (lv.take m) (lt.take (m + 1))) bl :: tn (.node (lk.drop (m + 1)) (lv.drop (m + 1)) (lt.drop (m + 1))) br :: A :: (F ++ Y)) g := by
  have hk : kidsP lt il.bs = kidsP (lt.take (m + 1)) (il.bs.take (m + 1)) ++ kidsP (lt.drop (m + 1)) (il.bs.drop (m + 1)) := by
    rw [← kidsP_app _ _ _ _ (by simp [hil.1]), List.take_append_drop, List.take_append_drop]
  rw [hk, List.append_assoc] at h
  refine node_in ⟨pk, m, pv, m, il.tp, tcl, il.bs.take (m + 1)⟩ ⟨by simp [hil.1], fun h => hil.2 ?_⟩ ?_
  · rcases h3 with h3 | h3
    · exact h3
    · have h4 : (lt.take (m + 1)).length = 0 := by rw [h]; rfl
      rw [List.length_take] at h4; omega
  unfold hdr
  have e1 : (lk.take m).length = m := by rw [List.length_take]; omega
  have e2 : (lv.take m).length = m := by rw [List.length_take]; omega
  have e3 : (lk.drop (m + 1)).length = lk.length - (m + 1) := List.length_drop
  have e4 : (lv.drop (m + 1)).length = lv.length - (m + 1) := List.length_drop
  have e5 : (lk.take m).flatMap nm = (lk.flatMap nm).take (m * 2) := flat_take nm 2 nm_len lk m
  have e6 : cells .i64 (lv.take m) = (cells .i64 lv).take (m * 1) := by rw [Nat.mul_one]; simp [cells, List.map_take]
  simp only [e1, e2, e5, e6]
  refine sepL_tail (fun g h => sepL_tail (fun g h => sepL_tail (fun g h => sepL_tail (fun g h => ?_) h) h) h) h
  refine sepL_tails (fun g h => ?_) (kidsP (lt.take (m + 1)) (il.bs.take (m + 1))) (T := pts br (130, [.slice p43 (lk.length - (m + 1)) c43, .slice p51 (lv.length - (m + 1)) c51, .slice tpr (il.bs.drop (m + 1)).length tcr]) :: sl 2 (.slice p43 (lk.length - (m + 1)) c43) (24, (lk.drop (m + 1)).flatMap nm) :: sl 1 (.slice p51 (lv.length - (m + 1)) c51) (3, cells .i64 (lv.drop (m + 1))) ::
      sl 1 (.slice tpr (il.bs.drop (m + 1)).length tcr) (84, (il.bs.drop (m + 1)).map ptrV) :: A :: (F ++ (kidsP (lt.drop (m + 1)) (il.bs.drop (m + 1)) ++ Y))) ?_
  · refine node_in ⟨p43, c43, p51, c51, tpr, tcr, il.bs.drop (m + 1)⟩ ⟨by simp [hil.1], fun h => hq ?_⟩ ?_
    · rcases h3 with h3 | h3
      · exact h3
      · have h4 : (lt.drop (m + 1)).length = 0 := by rw [h]; rfl
        rw [List.length_drop] at h4; omega
    · unfold hdr
      simp only [e3, e4]
      refine sepL_tail (fun g h => sepL_tail (fun g h => sepL_tail (fun g h => sepL_tail (fun g h => ?_) h) h) h) h
      exact sepL_swapl (A :: F) _ h
  · exact sepL_swapl (pts br _ :: sl 2 _ _ :: sl 1 _ _ :: sl 1 _ _ :: A :: F) _ h
theorem ptr_one (l : List Nat) : one (l.map ptrV) = true := by
  induction l with
  | nil => rfl
  | cons x t ih => simpa [one, one1, ptrV] using ih
section
variable {P : Program} {ops : Array Oper} {Q : Exit → Act → World → Prop} {n : Nd} {κ : Kap} {rest : List Oper} {l : List Oper} {L : List Nat} {W : List (Nat × Nat × List Value)} {fuel : Nat} {done : List Nat} {fr : List (Nat × Value)} {cs : List HProp}
/-- Rows in another order. -/
theorem Co.pm {c : Code} {r : List HProp} (m : Nat) (idx : List Nat) (k : Co P Q n κ c fr r) (e : pmL m idx cs = some r := by rfl) : Co P Q n κ c fr cs := fun a w hf hs => k a w hf (hs.pm m idx e)
theorem St.pm {r : List HProp} (m : Nat) (idx : List Nat) (k : St P ops Q n κ rest fr r) (e : pmL m idx cs = some r := by rfl) : St P ops Q n κ rest fr cs := fun a w hf hs => k a w hf (hs.pm m idx e)
theorem Sd.pm {r : List HProp} (m : Nat) (idx : List Nat) (k : Sd P l Q L W n κ fuel done fr r) (e : pmL m idx cs = some r := by rfl) : Sd P l Q L W n κ fuel done fr cs := fun a w hf hs => k a w hf (hs.pm m idx e)
theorem Co.cut3 (p : Option Addr) (n0 cap sz i c : Nat) {cd : Code} {T : TypeId} {r : List Value} {F : HProp → List HProp} (hi : i ≤ n0) (hc : i ≤ c ∧ c ≤ cap) (k : Co P Q n κ cd fr (F (sl sz (.slice p i c) (T, r.take (i * sz))))) (h : Ob (sl sz) (.slice p n0 cap) cs (T, r) F := by infer_instance) :
    Co P Q n κ cd fr cs := fun a w hf hs => k a w hf (h.conv (fun _ h => sl_cut i c hi hc h) hs)
end
end Go.Proofs.YtpcechnalfaajaaDoor
