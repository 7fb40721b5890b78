/- Part 4 of the proof: U5, U6, U7, U8, U9, U10, U11, U13, U15, V11, V12. -/
import Derived.Test.YtpcechnalfaajaaDoorP3
/- sha: turn, block. -/
namespace Go.Proofs.YtpcechnalfaajaaDoor
open Go Go.Proofs

theorem turn_tr (x n : Int) (hn : 0 ≤ n ∧ n ≤ 32) (κ : Kap) (cs : List HProp) : Tr Tryd.prog 90 [.int .u32 x, .int .i64 n] κ cs (.int .u32 (turnI x n)) cs := by
  refine .enter Tryd.func90 rfl rfl ?_
  refine .seq ?_
  refine .reg ?_
  refine .as ?_
  refine .go ?_
  refine .seq ?_
  refine .regD [] [] ?_
  refine .mv 0 ?_
  refine .mv 1 ?_
  refine .shr 2 ?_
  refine .mv 3 ?_
  refine .mv 4 ?_
  refine .sb 5 ?_
  refine .shl 6 ?_
  refine .or 7 ?_
  refine .as 8 ?_
  refine .go ?_
  refine .r1 fun w hs => ?_
  exact ⟨rfl, hs⟩

theorem set_self (l : List Int) (i : Nat) (h : i < l.length) : l.set i (l.getD i 0) = l := by
  apply List.ext_getElem?
  intro j
  rw [List.getElem?_set]
  split
  · rename_i e; subst e; simp [h]
  · rfl
theorem foldB_succ (x : Int) (c : List UInt8) (k : Nat) (h : k < c.length) : foldB x (c.take (k + 1)) = borK .u32 (shlK .u32 (foldB x (c.take k)) 8) (IntKind.u32.wrap ((c.getD k 0).toNat : Int)) := by
  unfold foldB
  rw [List.take_succ_eq_append_getElem h, List.foldl_append]
  simp [List.getD, h]
theorem list8 : ∀ (h : List Int), h.length = 8 → ∃ h0 h1 h2 h3 h4 h5 h6 h7, h = [h0, h1, h2, h3, h4, h5, h6, h7]
  | [h0, h1, h2, h3, h4, h5, h6, h7], _ => ⟨h0, h1, h2, h3, h4, h5, h6, h7, rfl⟩
theorem block_tr (bh : Nat) (h : List Int) (hh : h.length = 8) (b : List UInt8) (hb : b.length = 64) (p : Option Addr) (cap : Nat) (hcap : 64 ≤ cap) (κ : Kap) (hκ : Laid κ) (cs : List HProp) (hr : RdS cs p (bv b)) :
    Tr Tryd.prog 89 [.pointer (some ⟨bh, 0, none⟩), .slice p 64 cap] κ (pts bh (157, cells .u32 h) :: cs) (.tuple #[]) (pts bh (157, cells .u32 (blockH h b)) :: cs) := by
  refine .enter Tryd.func89 rfl rfl ?_
  rcases hr with hr | ⟨bb, o, rfl, hr⟩
  · exact absurd (congrArg List.length hr) (by simp [hb])
  refine .seq ?_
  refine .reg ?_
  refine .al fun b4 => ?_
  refine .go ?_
  refine .seq ?_
  refine .seq ?_
  refine .reg ?_
  refine .mv ?_
  refine .go ?_
  refine .block ?_
  refine .lp (fun i : Nat => [(0, .pointer (some ⟨bh, 0, none⟩)), (1, .slice (some ⟨bb, o, none⟩) 64 cap), (4, .pointer (some ⟨b4, 0, none⟩)), (18, .int .i64 i)])
    (fun i => pts b4 (160, cells .u32 (W1 b i)) :: pts bh (157, cells .u32 h) :: cs) (fun i => i ≤ 16) (fun i => 16 - i) 0 (by omega) (by repeat (first | exact trivial | refine ⟨rfl, ?_⟩)) rfl fun i hi => ?_
  refine .seq ?_
  refine .reg ?_
  refine .lt ?_
  refine .go ?_
  refine .seq ?_
  refine .cond rfl (fun hc => ?_) (fun hc => ?_)   -- t19
  · refine .go ?_
    have hlt : i < 16 := by have := of_decide_eq_true hc; omega
    have hch := (hr.drop (4 * i) (by simp [hb]; omega)).take 4
    have hcl : ((b.drop (4 * i)).take 4).length = 4 := by simp [hb]; omega
    rw [show ((bv b).drop (4 * i)).take 4 = bv ((b.drop (4 * i)).take 4) by simp [bv]] at hch
    refine .seq ?_
    refine .block ?_
    refine .seq ?_
    refine .reg ?_
    refine .mv ?_
    refine .as ?_
    refine .go ?_
    refine .seq ?_
    refine .reg ?_
    refine .mv ?_
    refine .mv ?_
    refine .mu ?_
    refine .mv ?_
    refine .mu ?_
    refine .ad ?_
    refine .slc (4 * i) (4 * i + 4) ?_
    rw [if_neg (by omega), show (4 * i + 4 - 4 * i) = 4 by omega, Option.map_some, Addr.add_plain, Nat.mul_one]
    refine .ln ?_
    refine .mv ?_
    refine .go ?_
    refine .block ?_
    refine .lp (fun k : Nat => [(0, .pointer (some ⟨bh, 0, none⟩)), (1, .slice (some ⟨bb, o, none⟩) 64 cap), (4, .pointer (some ⟨b4, 0, none⟩)), (18, .int .i64 i), (5, .int .i64 i), (27, .slice (some ⟨bb, o + 4 * i, none⟩) 4 (cap - 4 * i)), (28, .int .i64 (4 : Nat)), (29, .int .i64 k)])
      (fun k => pts b4 (160, cells .u32 ((W1 b i).set i (foldB ((W1 b i).getD i 0) (((b.drop (4 * i)).take 4).take k)))) :: pts bh (157, cells .u32 h) :: cs) (fun k => k ≤ 4) (fun k => 4 - k) 0 (by omega) (by repeat (first | exact trivial | refine ⟨rfl, ?_⟩))
      (by rw [List.take_zero]; show _ = pts b4 (_, cells .u32 ((W1 b i).set i ((W1 b i).getD i 0))) :: _; rw [set_self _ _ (by simp; omega)]) fun k hk => ?_
    refine .seq ?_
    refine .reg ?_
    refine .lt ?_
    refine .go ?_
    refine .seq ?_
    refine .cond rfl (fun hc => ?_) (fun hc => ?_)   -- t30
    · have hk4 : k < 4 := by have := of_decide_eq_true hc; omega
      refine .go ?_
      refine .seq ?_
      refine .block ?_
      refine .seq ?_
      refine .reg ?_
      refine .ix ?_
      refine .lx (bv_get ((b.drop (4 * i)).take 4) (k * 1) (by omega)) ?_
      rw [Nat.mul_one]
      refine .as ?_
      refine .go ?_
      refine .reg ?_
      refine .mv ?_
      refine .mv ?_
      refine .ixa ?_
      refine .lx (v := .int .u32 (foldB ((W1 b i).getD i 0) (((b.drop (4 * i)).take 4).take k))) ?_ ?_
      · show getV false _ (i * 1) 1 = _
        rw [Nat.mul_one, cells_get _ _ _ (by simp; omega)]; simp [List.getD, Nat.lt_trans hlt (by omega : 16 < 64)]
      refine .shl ?_
      refine .mv ?_
      refine .cv ?_
      refine .or ?_
      refine .ixa ?_
      refine .sx (r' := cells .u32 ((W1 b i).set i (foldB ((W1 b i).getD i 0) (((b.drop (4 * i)).take 4).take (k + 1))))) ?_ ?_
      · show putN _ (0 + i * 1) _ = _
        rw [Nat.zero_add, Nat.mul_one, cells_put _ _ _ _ (by simp; omega), List.set_set, foldB_succ _ _ _ (by omega)]
      refine .go ?_
      refine .reg ?_
      refine .ad ?_
      refine .mv ?_
      rw [show (k : Int) + 1 = ((k + 1 : Nat) : Int) by omega]
      exact .nil fun aa w hf hs => ⟨k + 1, by omega, by omega, hf.to (by repeat (first | exact trivial | refine ⟨rfl, ?_⟩)), hs⟩
    · have hk4 : k = 4 := by have := of_decide_eq_false hc; omega
      subst hk4
      refine .xgo ?_
      refine .reg ?_
      refine .ad ?_
      refine .mv ?_
      rw [show (i : Int) + 1 = ((i + 1 : Nat) : Int) by omega]
      refine .nil fun aa w hf hs => ⟨i + 1, by omega, by omega, hf.to (by repeat (first | exact trivial | refine ⟨rfl, ?_⟩)), ?_⟩
      rw [List.take_of_length_le (by omega)] at hs
      exact hs
  · have hi16 : i = 16 := by have := of_decide_eq_false hc; omega
    subst hi16
    have hw1 : (W1 b 16).length = 64 := W1_len _ _
    have hB : blockH h b = H4 (S3 roundsI (W2 (W1 b 16) 48) (s8 h) 64).l h 8 := rfl
    rw [hB]
    generalize W1 b 16 = w1 at *
    refine .xgo ?_
    refine .seq ?_
    refine .seq ?_
    refine .reg ?_
    refine .as ?_
    refine .go ?_
    refine .block ?_
    refine .lp (fun k : Nat => [(0, .pointer (some ⟨bh, 0, none⟩)), (4, .pointer (some ⟨b4, 0, none⟩)), (8, .int .i64 (16 + k : Nat))])
      (fun k => pts b4 (160, cells .u32 (W2 w1 k)) :: pts bh (157, cells .u32 h) :: cs) (fun k => k ≤ 48) (fun k => 48 - k) 0 (by omega) (by repeat (first | exact trivial | refine ⟨rfl, ?_⟩)) rfl fun k hk => ?_
    refine .seq ?_
    refine .seq ?_
    refine .reg ?_
    refine .mv ?_
    refine .lt ?_
    refine .go ?_
    refine .cond rfl (fun hc => ?_) (fun hc => ?_)   -- t45
    · have hk48 : k < 48 := by have := of_decide_eq_true hc; omega
      have hl2 : (W2 w1 k).length = 64 := by rw [W2_len, hw1]
      have hg : ∀ (j : Nat) (z : Int), j < 64 → z = j → getV false (cells .u32 (W2 w1 k)) (z.toNat * 1) 1 = some (.int .u32 ((W2 w1 k).getD j 0)) := by
        intro j z hj hz
        rw [hz, Nat.mul_one]; exact cells_get _ _ _ (by rw [hl2]; exact hj)
      have hval : valW (W2 w1 k) (16 + k) = valW (W2 w1 k) (16 + k) := rfl
      conv at hval => lhs; unfold valW
      have hW2 : W2 w1 (k + 1) = (W2 w1 k).set (16 + k) (valW (W2 w1 k) (16 + k)) := rfl
      generalize W2 w1 k = w2 at *
      refine .go ?_
      refine .seq ?_
      refine .block ?_
      refine .seq ?_
      refine .regD [(b4, 0, cells .u32 w2)] [] ?_
      refine .mv 0 ?_
      refine .sb 1 ?_
      refine .ixa 2 ?_
      refine .lx 3 (hg (16 + k - 15) (((16 + k : Nat) : Int) - 15) (by omega) (by omega)) ?_
      refine .mv 4 ?_
      refine .sb 5 ?_
      refine .ixa 6 ?_
      refine .lx 7 (hg (16 + k - 2) (((16 + k : Nat) : Int) - 2) (by omega) (by omega)) ?_
      refine .as 8 ?_
      refine .as 9 ?_
      refine .go ?_
      refine .regD [(b4, 0, cells .u32 w2)] [29] ?_
      refine .mv 0 ?_
      refine .mv 1 ?_
      refine .sb 2 ?_
      refine .ixa 3 ?_
      refine .lx 4 (hg (16 + k - 16) (((16 + k : Nat) : Int) - 16) (by omega) (by omega)) ?_
      refine .mv 5 ?_
      refine .mv 7 ?_
      refine .mv 10 ?_
      refine .shr 11 ?_
      refine .mv 14 ?_
      refine .sb 15 ?_
      refine .ixa 16 ?_
      refine .lx 17 (hg (16 + k - 7) (((16 + k : Nat) : Int) - 7) (by omega) (by omega)) ?_
      refine .mv 19 ?_
      refine .mv 21 ?_
      refine .mv 24 ?_
      refine .shr 25 ?_
      refine .cl 6 (turn_tr _ 7 ⟨by decide, by decide⟩ κ _) ?_
      refine .cl 8 (turn_tr _ 18 ⟨by decide, by decide⟩ κ _) ?_
      refine .xo 9 ?_
      refine .xo 12 ?_
      refine .adw 13 ?_
      refine .adw 18 ?_
      refine .cl 20 (turn_tr _ 17 ⟨by decide, by decide⟩ κ _) ?_
      refine .cl 22 (turn_tr _ 19 ⟨by decide, by decide⟩ κ _) ?_
      refine .xo 23 ?_
      refine .xo 26 ?_
      refine .adw 27 ?_
      refine .ixa 28 ?_
      rw [hval]
      refine .sx 29 (r' := cells .u32 (W2 w1 (k + 1))) ?_ ?_
      · rw [hW2]
        show putN _ (0 + (16 + k) * 1) _ = _
        rw [Nat.zero_add, Nat.mul_one, cells_put _ _ _ _ (by omega)]
      refine .go ?_
      refine .reg ?_
      refine .mv ?_
      refine .ad ?_
      refine .as ?_
      rw [show ((16 + k : Nat) : Int) + 1 = ((16 + (k + 1) : Nat) : Int) by omega]
      exact .nil fun aa w hf hs => ⟨k + 1, by omega, by omega, hf.to (by repeat (first | exact trivial | refine ⟨rfl, ?_⟩)), hs⟩
    · have hk48 : k = 48 := by have := of_decide_eq_false hc; omega
      subst hk48
      have hw2 : (W2 w1 48).length = 64 := by rw [W2_len, hw1]
      generalize W2 w1 48 = w2 at *
      obtain ⟨h0, h1, h2, h3, h4, h5, h6, h7, rfl⟩ := list8 h hh
      refine .xgo ?_
      refine .seq ?_
      refine .reg ?_
      refine .sat (fun w hs => hs.true hκ.rounds) ?_
      refine .mv ?_
      refine .nc ?_
      refine .ld ?_
      refine .al fun b11 => ?_
      refine .st ?_
      refine .go ?_
      refine .seq ?_
      refine .seq ?_
      refine .reg ?_
      refine .mv ?_
      refine .go ?_
      refine .block ?_
      refine .lp (fun i : Nat => [(0, .pointer (some ⟨bh, 0, none⟩)), (4, .pointer (some ⟨b4, 0, none⟩)), (11, .pointer (some ⟨b11, 0, none⟩)), (88, .int .i64 i)])
        (fun i => pts b11 (157, cells .u32 (S3 roundsI w2 (s8 [h0, h1, h2, h3, h4, h5, h6, h7]) i).l) :: rda 3 0 (cells .u32 roundsI) :: pts b4 (160, cells .u32 w2) :: pts bh (157, cells .u32 [h0, h1, h2, h3, h4, h5, h6, h7]) :: cs)
        (fun i => i ≤ 64) (fun i => 64 - i) 0 (by omega) (by repeat (first | exact trivial | refine ⟨rfl, ?_⟩)) rfl fun i hi => ?_
      refine .seq ?_
      refine .reg ?_
      refine .lt ?_
      refine .go ?_
      refine .seq ?_
      refine .cond rfl (fun hc => ?_) (fun hc => ?_)   -- t89
      · have hlt : i < 64 := by have := of_decide_eq_true hc; omega
        have hS : S3 roundsI w2 (s8 [h0, h1, h2, h3, h4, h5, h6, h7]) (i + 1) = (let s := S3 roundsI w2 (s8 [h0, h1, h2, h3, h4, h5, h6, h7]) i; let t := t3 (roundsI.getD i 0) (w2.getD i 0) s; ⟨addK .u32 t (u3 s), s.a, s.b, s.c, addK .u32 s.d t, s.e, s.f, s.g⟩) := rfl
        have hgw : getV false (cells .u32 w2) (((i : Nat) : Int).toNat * 1) 1 = some (.int .u32 (w2.getD i 0)) := by
          rw [Nat.mul_one]; exact cells_get _ _ _ (by rw [hw2]; exact hlt)
        have hgr : getV false (cells .u32 roundsI) (((i : Nat) : Int).toNat * 1) 1 = some (.int .u32 (roundsI.getD i 0)) := by
          rw [Nat.mul_one]; exact cells_get _ _ _ hlt
        generalize S3 roundsI w2 (s8 [h0, h1, h2, h3, h4, h5, h6, h7]) i = s at *
        generalize hR : roundsI = R at *
        refine .go ?_
        refine .seq ?_
        refine .block ?_
        refine .seq ?_
        refine .reg ?_
        refine .mv ?_
        refine .as ?_
        refine .go ?_
        refine .seq ?_
        refine .regD [(b11, 0, cells .u32 s.l)] [] ?_
        refine .ixa 0 ?_
        refine .ld 1 ?_
        refine .ixa 2 ?_
        refine .ld 3 ?_
        refine .as 4 ?_
        refine .as 5 ?_
        refine .go ?_
        refine .seq ?_
        refine .regD [(b11, 0, cells .u32 s.l), (3, 0, cells .u32 R), (b4, 0, cells .u32 w2)] [] ?_
        refine .ixa 0 ?_
        refine .ld 1 ?_
        refine .mv 2 ?_
        refine .mv 4 ?_
        refine .mv 7 ?_
        refine .mv 11 ?_
        refine .ixa 12 ?_
        refine .ld 13 ?_
        refine .an 14 ?_
        refine .mv 15 ?_
        refine .cpl 16 ?_
        refine .ixa 17 ?_
        refine .ld 18 ?_
        refine .an 19 ?_
        refine .xo 20 ?_
        refine .mv 22 ?_
        refine .ixa 23 ?_
        refine .lx 24 hgr ?_
        refine .mv 26 ?_
        refine .ixa 27 ?_
        refine .lx 28 hgw ?_
        refine .cl 3 (turn_tr _ 6 ⟨by decide, by decide⟩ κ _) ?_
        refine .cl 5 (turn_tr _ 11 ⟨by decide, by decide⟩ κ _) ?_
        refine .xo 6 ?_
        refine .cl 8 (turn_tr _ 25 ⟨by decide, by decide⟩ κ _) ?_
        refine .xo 9 ?_
        refine .adw 10 ?_
        refine .adw 21 ?_
        refine .adw 25 ?_
        refine .adw 29 ?_
        refine .as 30 ?_
        refine .go ?_
        refine .seq ?_
        refine .regD [(b11, 0, cells .u32 s.l)] [] ?_
        refine .mv 0 ?_
        refine .mv 2 ?_
        refine .mv 5 ?_
        refine .mv 8 ?_
        refine .ixa 9 ?_
        refine .ld 10 ?_
        refine .an 11 ?_
        refine .mv 12 ?_
        refine .ixa 13 ?_
        refine .ld 14 ?_
        refine .an 15 ?_
        refine .xo 16 ?_
        refine .ixa 17 ?_
        refine .ld 18 ?_
        refine .ixa 19 ?_
        refine .ld 20 ?_
        refine .an 21 ?_
        refine .xo 22 ?_
        refine .cl 1 (turn_tr _ 2 ⟨by decide, by decide⟩ κ _) ?_
        refine .cl 3 (turn_tr _ 13 ⟨by decide, by decide⟩ κ _) ?_
        refine .xo 4 ?_
        refine .cl 6 (turn_tr _ 22 ⟨by decide, by decide⟩ κ _) ?_
        refine .xo 7 ?_
        refine .adw 23 ?_
        refine .as 24 ?_
        refine .go ?_
        refine .reg ?_
        refine .mv ?_
        refine .mv ?_
        refine .adw ?_
        refine .mv ?_
        refine .ixa ?_
        refine .ld ?_
        refine .ixa ?_
        refine .ld ?_
        refine .ixa ?_
        refine .ld ?_
        refine .mv ?_
        refine .adw ?_
        refine .mv ?_
        refine .ixa ?_
        refine .ld ?_
        refine .ixa ?_
        refine .ld ?_
        refine .bda ?_
        refine .st ?_
        refine .go ?_
        refine .reg ?_
        refine .ad ?_
        refine .mv ?_
        rw [show (i : Int) + 1 = ((i + 1 : Nat) : Int) by omega]
        refine .nil fun aa w hf hs => ⟨i + 1, by omega, by omega, hf.to (by repeat (first | exact trivial | refine ⟨rfl, ?_⟩)), ?_⟩
        rw [hS]
        exact hs
      · have h64 : i = 64 := by have := of_decide_eq_false hc; omega
        subst h64
        generalize S3 roundsI w2 (s8 [h0, h1, h2, h3, h4, h5, h6, h7]) 64 = s at *
        refine .xgo ?_
        refine .seq ?_
        refine .reg ?_
        refine .mv ?_
        refine .go ?_
        refine .block ?_
        refine .lp (fun i : Nat => [(0, .pointer (some ⟨bh, 0, none⟩)), (11, .pointer (some ⟨b11, 0, none⟩)), (168, .int .i64 i)])
          (fun i => pts b11 (157, cells .u32 s.l) :: rda 3 0 (cells .u32 roundsI) :: pts b4 (160, cells .u32 w2) :: pts bh (157, cells .u32 (H4 s.l [h0, h1, h2, h3, h4, h5, h6, h7] i)) :: cs)
          (fun i => i ≤ 8) (fun i => 8 - i) 0 (by omega) (by repeat (first | exact trivial | refine ⟨rfl, ?_⟩)) rfl fun i hi => ?_
        refine .seq ?_
        refine .reg ?_
        refine .lt ?_
        refine .go ?_
        refine .seq ?_
        refine .cond rfl (fun hc => ?_) (fun hc => ?_)   -- t169
        · have hlt : i < 8 := by have := of_decide_eq_true hc; omega
          have hl : (H4 s.l [h0, h1, h2, h3, h4, h5, h6, h7] i).length = 8 := by rw [H4_len]; rfl
          have hH : H4 s.l [h0, h1, h2, h3, h4, h5, h6, h7] (i + 1) = (H4 s.l [h0, h1, h2, h3, h4, h5, h6, h7] i).set i (addK .u32 ((H4 s.l [h0, h1, h2, h3, h4, h5, h6, h7] i).getD i 0) (s.l.getD i 0)) := rfl
          have hg1 : getV false (cells .u32 s.l) (((i : Nat) : Int).toNat * 1) 1 = some (.int .u32 (s.l.getD i 0)) := by
            rw [Nat.mul_one]; exact cells_get _ _ _ hlt
          have hg2 : getV false (cells .u32 (H4 s.l [h0, h1, h2, h3, h4, h5, h6, h7] i)) (((i : Nat) : Int).toNat * 1) 1 = some (.int .u32 ((H4 s.l [h0, h1, h2, h3, h4, h5, h6, h7] i).getD i 0)) := by
            rw [Nat.mul_one]; exact cells_get _ _ _ (by rw [hl]; exact hlt)
          generalize H4 s.l [h0, h1, h2, h3, h4, h5, h6, h7] i = hh' at *
          refine .go ?_
          refine .seq ?_
          refine .block ?_
          refine .seq ?_
          refine .reg ?_
          refine .mv ?_
          refine .as ?_
          refine .go ?_
          refine .regD [(bh, 0, cells .u32 hh'), (b11, 0, cells .u32 s.l)] [11] ?_
          refine .mv 0 ?_
          refine .mv 1 ?_
          refine .nc 2 ?_
          refine .ixa 3 ?_
          refine .lx 4 hg2 ?_
          refine .mv 5 ?_
          refine .ixa 6 ?_
          refine .lx 7 hg1 ?_
          refine .adw 8 ?_
          refine .nc 9 ?_
          refine .ixa 10 ?_
          refine .sx 11 (r' := cells .u32 (H4 s.l [h0, h1, h2, h3, h4, h5, h6, h7] (i + 1))) ?_ ?_
          · rw [hH]
            show putN _ (0 + i * 1) _ = _
            rw [Nat.zero_add, Nat.mul_one, cells_put _ _ _ _ (by omega)]
          refine .go ?_
          refine .reg ?_
          refine .ad ?_
          refine .mv ?_
          rw [show (i : Int) + 1 = ((i + 1 : Nat) : Int) by omega]
          exact .nil fun aa w hf hs => ⟨i + 1, by omega, by omega, hf.to (by repeat (first | exact trivial | refine ⟨rfl, ?_⟩)), hs⟩
        · have h8 : i = 8 := by have := of_decide_eq_false hc; omega
          subst h8
          refine .x0 (fun w hs => ?_)
          exact ⟨rfl, hs.rows.rows.rows⟩
end Go.Proofs.YtpcechnalfaajaaDoor

/- sha: sum, Of. -/
namespace Go.Proofs.YtpcechnalfaajaaDoor
open Go Go.Proofs

theorem out_step (h : List Int) (k : Nat) (hlt : k < 32) : putN (bv (outB h k ++ List.replicate (32 - k) 0)) k (vc (.int .u8 ((toB (shrK .u32 (h.getD (k / 4) 0) (24 - 8 * ((k % 4 : Nat) : Int)))).toNat : Int))) = some (bv (outB h (k + 1) ++ List.replicate (32 - (k + 1)) 0)) := by
  have e : List.replicate (32 - k) (0 : UInt8) = 0 :: List.replicate (32 - (k + 1)) 0 := by
    rw [show 32 - k = (32 - (k + 1)) + 1 by omega, List.replicate_succ]
  rw [putN_one _ _ _ (by simp; omega) rfl, e]
  simp [bv, outB]
theorem sum_tr (l : List UInt8) (hl : l.length < 1000000000) (p : Option Addr) (cap : Nat) (κ : Kap) (hκ : Laid κ) (cs : List HProp) (hr : RdS cs p (bv l)) :
    Tr Tryd.prog 87 [.slice p l.length cap] κ cs (.agg (hcells (sha l)).toArray) cs := by
  refine .enter Tryd.func87 rfl rfl ?_
  refine .seq ?_
  refine .reg ?_
  refine .al fun b2 => ?_
  refine .go ?_
  refine .seq ?_
  refine .reg ?_
  refine .mv ?_
  refine .ln ?_
  refine .cv ?_
  refine .ml ?_
  refine .as ?_
  refine .go ?_
  refine .seq ?_
  refine .reg ?_
  refine .ns 1 5 ?_
  refine .mv ?_
  refine .ap (.tail (.tail hr)) (fun p14 c14 => ?_) (show (bv l).length = l.length * 1 by simp) (bv_one l)
  rw [Nat.zero_add, List.nil_append]
  refine .bs fun b15 => ?_
  refine .ap .of (fun p16 c16 => ?_) rfl rfl
  refine .as ?_
  refine .go ?_
  have e0 : bv l ++ [Value.int .u8 128] = bv (l ++ [128] ++ List.replicate 0 0) := by simp [bv]
  refine .sat (cs' := sl 1 (.slice p16 (l.length + 1) c16) (5, bv (l ++ [128] ++ List.replicate 0 0)) :: pts b2 (35, bv (List.replicate 32 0)) :: cs) (fun w hs => by rw [← e0]; exact hs.rows) ?_
  have hP : padB l = l ++ [128] ++ List.replicate ((119 - l.length % 64) % 64) 0 := rfl
  generalize hz : (119 - l.length % 64) % 64 = z at *
  refine .seq ?_
  refine .block ?_
  refine .lp (ι := Nat × Option Addr × Nat) (fun i => [(0, .slice i.2.1 (l.length + 1 + i.1) i.2.2), (2, .pointer (some ⟨b2, 0, none⟩)), (3, .int .u64 (mulK .u64 (IntKind.u64.wrap (l.length : Int)) 8))])
    (fun i => sl 1 (.slice i.2.1 (l.length + 1 + i.1) i.2.2) (5, bv (l ++ [128] ++ List.replicate i.1 0)) :: pts b2 (35, bv (List.replicate 32 0)) :: cs)
    (fun i => i.1 ≤ z) (fun i => z - i.1) (0, p16, c16) (by simp) (by repeat (first | exact trivial | refine ⟨rfl, ?_⟩)) rfl fun ⟨j, q, c⟩ hj => ?_
  have hj : j ≤ z := hj
  have hrem : ((l.length + 1 + j : Nat) : Int).tmod 64 = (((l.length + 1 + j) % 64 : Nat) : Int) := rfl
  refine .seq ?_
  refine .seq ?_
  refine .reg ?_
  refine .mv ?_
  refine .ln ?_
  refine .rem ?_
  rw [hrem]
  refine .ne ?_
  refine .go ?_
  refine .cond rfl (fun hc => ?_) (fun hc => ?_)   -- t20
  · have hlt : j < z := by
      have := of_decide_eq_true hc
      omega
    refine .go ?_
    refine .block ?_
    refine .reg ?_
    refine .mv ?_
    refine .bs fun b22 => ?_
    refine .ap .of (fun p23 c23 => ?_) rfl rfl
    refine .as ?_
    refine .nil fun aa w hf hs => ⟨(j + 1, p23, c23), by show j + 1 ≤ z; omega, by show z - (j + 1) < z - j; omega, hf.to (by repeat (first | exact trivial | refine ⟨rfl, ?_⟩)), ?_⟩
    have e : bv (l ++ [128] ++ List.replicate j 0) ++ [Value.int .u8 0] = bv (l ++ [128] ++ List.replicate (j + 1) 0) := by simp [bv, List.replicate_succ']
    rw [← e]
    exact hs.rows
  · have hjz : j = z := by
      have := of_decide_eq_false hc
      have : (((l.length + 1 + j) % 64 : Nat) : Int) = 56 := Decidable.not_not.1 this
      omega
    subst hjz
    rw [← hP]
    have hpl : (padB l).length = l.length + 1 + j := by rw [hP]; simp; omega
    have hp56 : (padB l).length % 64 = 56 := by rw [hpl]; omega
    have hM : msgB l = padB l ++ tailB (mulK .u64 (IntKind.u64.wrap (l.length : Int)) 8) 8 := rfl
    have hS : hcells (sha l) = bv (outB (blocksH (msgB l) ((msgB l).length / 64)) 32) := rfl
    generalize mulK .u64 (IntKind.u64.wrap (l.length : Int)) 8 = n64 at *
    rw [show l.length + 1 + j = (padB l).length by omega]
    have hpn : (padB l).length < 1000000100 := by omega
    clear hrem hc hj hP
    generalize padB l = P at *
    refine .xgo ?_
    refine .seq ?_
    refine .seq ?_
    refine .reg ?_
    refine .as ?_
    refine .go ?_
    refine .block ?_
    refine .lp (ι := Nat × Option Addr × Nat) (fun i => [(0, .slice i.2.1 (P.length + i.1) i.2.2), (2, .pointer (some ⟨b2, 0, none⟩)), (3, .int .u64 n64), (4, .int .i64 (7 - (i.1 : Int)))])
      (fun i => sl 1 (.slice i.2.1 (P.length + i.1) i.2.2) (5, bv (P ++ tailB n64 i.1)) :: pts b2 (35, bv (List.replicate 32 0)) :: cs)
      (fun i => i.1 ≤ 8) (fun i => 8 - i.1) (0, q, c) (by simp) (by repeat (first | exact trivial | refine ⟨rfl, ?_⟩)) (by simp [tailB]) fun ⟨k, q, c⟩ hk => ?_
    have hk : k ≤ 8 := hk
    refine .seq ?_
    refine .seq ?_
    refine .reg ?_
    refine .mv ?_
    refine .ge ?_
    refine .go ?_
    refine .cond rfl (fun hc => ?_) (fun hc => ?_)   -- t25
    · have hlt : k < 8 := by have := of_decide_eq_true hc; omega
      refine .go ?_
      refine .seq ?_
      refine .block ?_
      refine .reg ?_
      refine .mv ?_
      refine .mv ?_
      refine .mv ?_
      refine .mu ?_
      refine .shr ?_
      refine .cv ?_
      rw [u8_byte]
      refine .bs fun b34 => ?_
      refine .ap .of (fun p35 c35 => ?_) rfl rfl
      refine .as ?_
      refine .go ?_
      refine .reg ?_
      refine .mv ?_
      refine .sb ?_
      refine .as ?_
      rw [show (7 - (k : Int)) - 1 = 7 - ((k + 1 : Nat) : Int) by omega]
      refine .nil fun aa w hf hs => ⟨(k + 1, p35, c35), by show k + 1 ≤ 8; omega, by show 8 - (k + 1) < 8 - k; omega, hf.to (by repeat (first | exact trivial | refine ⟨rfl, ?_⟩)), ?_⟩
      have e : bv (P ++ tailB n64 k) ++ [Value.int .u8 ((toB (shrK .u64 n64 (8 * (7 - (k : Int))))).toNat : Int)] = bv (P ++ tailB n64 (k + 1)) := by simp [bv, tailB]
      rw [← e]
      exact hs.rows
    · have h8 : k = 8 := by have := of_decide_eq_false hc; omega
      subst h8
      rw [← hM, show P.length + 8 = (msgB l).length by rw [hM]; simp]
      have hmod : (msgB l).length % 64 = 0 := by rw [hM]; simp; omega
      have hml : (msgB l).length < 1000000200 := by rw [hM]; simp; omega
      have hpos : 0 < (msgB l).length := by rw [hM]; simp
      rw [hS]
      generalize msgB l = M at *
      refine .xgo ?_
      refine .slp (p := q) (cap := c) (sz := 1) hpos (fun bb hbb hcap => ?_)
      subst hbb
      refine .seq ?_
      refine .reg ?_
      refine .sat (fun w hs => hs.true hκ.start) ?_
      refine .ld ?_
      refine .al fun b5 => ?_
      refine .st ?_
      refine .go ?_
      refine .seq ?_
      refine .seq ?_
      refine .reg ?_
      refine .as ?_
      refine .go ?_
      refine .block ?_
      refine .lp (fun k : Nat => [(0, .slice (some ⟨bb, 0, none⟩) M.length c), (2, .pointer (some ⟨b2, 0, none⟩)), (5, .pointer (some ⟨b5, 0, none⟩)), (6, .int .i64 (64 * k : Nat))])
        (fun k => pts b5 (157, cells .u32 (blocksH M k)) :: rda 2 0 (cells .u32 startI) :: sl 1 (.slice (some ⟨bb, 0, none⟩) M.length c) (5, bv M) :: pts b2 (35, bv (List.replicate 32 0)) :: cs)
        (fun k => k ≤ M.length / 64) (fun k => M.length / 64 - k) 0 (by omega) (by repeat (first | exact trivial | refine ⟨rfl, ?_⟩)) rfl fun k hk => ?_
      refine .seq ?_
      refine .seq ?_
      refine .reg ?_
      refine .mv ?_
      refine .mv ?_
      refine .ln ?_
      refine .lt ?_
      refine .go ?_
      refine .cond rfl (fun hc => ?_) (fun hc => ?_)   -- t40
      · have hlt : 64 * k < M.length := by have := of_decide_eq_true hc; omega
        have hB : blocksH M (k + 1) = blockH (blocksH M k) ((M.drop (64 * k)).take 64) := rfl
        have hbl := blocksH_len M k
        refine .go ?_
        refine .seq ?_
        refine .block ?_
        refine .reg ?_
        refine .mv ?_
        refine .mv ?_
        refine .mv ?_
        refine .ad ?_
        refine .slc (64 * k) (64 * k + 64) ?_
        rw [if_neg (by omega), show (64 * k + 64 - 64 * k) = 64 by omega, Option.map_some, Addr.add_plain, Nat.mul_one]
        have hrd : ∀ F G : List HProp, RdAt bb (F ++ sl 1 (.slice (some ⟨bb, 0, none⟩) M.length c) (5, bv M) :: G) (0 + 64 * k) (bv ((M.drop (64 * k)).take 64)) := by
          intro F G
          have h1 : RdAt bb (F ++ sl 1 (.slice (some ⟨bb, 0, none⟩) M.length c) (5, bv M) :: G) 0 (bv M) := .app inferInstance
          have h2 := (h1.drop (64 * k) (by simp; omega)).take 64
          rwa [show ((bv M).drop (64 * k)).take 64 = bv ((M.drop (64 * k)).take 64) by simp [bv]] at h2
        refine .cl (block_tr b5 (blocksH M k) hbl ((M.drop (64 * k)).take 64) (by simp; omega) _ (c - 64 * k) (by omega) κ hκ _ (.inr ⟨_, _, rfl, hrd [_] _⟩)) ?_
        rw [← hB]
        refine .go ?_
        refine .reg ?_
        refine .mv ?_
        refine .ad ?_
        refine .as ?_
        rw [show ((64 * k : Nat) : Int) + 64 = ((64 * (k + 1) : Nat) : Int) by omega]
        exact .nil fun aa w hf hs => ⟨k + 1, by omega, by omega, hf.to (by repeat (first | exact trivial | refine ⟨rfl, ?_⟩)), hs⟩
      · have hk : k = M.length / 64 := by have := of_decide_eq_false hc; omega
        subst hk
        have hbl := blocksH_len M (M.length / 64)
        generalize blocksH M (M.length / 64) = h at *
        refine .xgo ?_
        refine .seq ?_
        refine .reg ?_
        refine .al fun b7 => ?_
        refine .go ?_
        refine .seq ?_
        refine .seq ?_
        refine .reg ?_
        refine .mv ?_
        refine .go ?_
        refine .block ?_
        refine .lp (fun k : Nat => [(2, .pointer (some ⟨b2, 0, none⟩)), (5, .pointer (some ⟨b5, 0, none⟩)), (7, .pointer (some ⟨b7, 0, none⟩)), (49, .int .i64 k)])
          (fun k => pts b7 (35, bv (outB h k ++ List.replicate (32 - k) 0)) :: pts b5 (157, cells .u32 h) :: rda 2 0 (cells .u32 startI) :: sl 1 (.slice (some ⟨bb, 0, none⟩) M.length c) (5, bv M) :: pts b2 (35, bv (List.replicate 32 0)) :: cs)
          (fun k => k ≤ 32) (fun k => 32 - k) 0 (by omega) (by repeat (first | exact trivial | refine ⟨rfl, ?_⟩)) rfl fun k hk => ?_
        refine .seq ?_
        refine .reg ?_
        refine .lt ?_
        refine .go ?_
        refine .seq ?_
        refine .cond rfl (fun hc => ?_) (fun hc => ?_)   -- t50
        · have hlt : k < 32 := by have := of_decide_eq_true hc; omega
          have hq : IntKind.i64.wrap ((k : Int).tdiv 4) = ((k / 4 : Nat) : Int) := by
            rw [show (k : Int).tdiv 4 = ((k / 4 : Nat) : Int) from rfl]; exact wrap_in (by omega)
          have hr4 : (k : Int).tmod 4 = ((k % 4 : Nat) : Int) := rfl
          have hg : getV false (cells .u32 h) (((k / 4 : Nat) : Int).toNat * 1) 1 = some (.int .u32 (h.getD (k / 4) 0)) := by
            rw [Nat.mul_one]; exact cells_get _ _ _ (by rw [hbl]; show k / 4 < 8; omega)
          refine .go ?_
          refine .seq ?_
          refine .block ?_
          refine .seq ?_
          refine .reg ?_
          refine .mv ?_
          refine .as ?_
          refine .go ?_
          refine .reg ?_
          refine .mv ?_
          refine .mv ?_
          refine .quo ?_
          rw [hq]
          refine .ixa ?_
          refine .lx hg ?_
          refine .mv ?_
          refine .rem ?_
          rw [hr4]
          refine .mu ?_
          refine .sb ?_
          refine .shr ?_
          refine .cv ?_
          rw [u8_byte]
          refine .ixa ?_
          refine .sx (r' := bv (outB h (k + 1) ++ List.replicate (32 - (k + 1)) 0)) ?_ ?_
          · show putN _ (0 + k * 1) _ = _
            rw [Nat.zero_add, Nat.mul_one]
            exact out_step h k hlt
          refine .go ?_
          refine .reg ?_
          refine .ad ?_
          refine .mv ?_
          rw [show (k : Int) + 1 = ((k + 1 : Nat) : Int) by omega]
          exact .nil fun aa w hf hs => ⟨k + 1, by omega, by omega, hf.to (by repeat (first | exact trivial | refine ⟨rfl, ?_⟩)), hs⟩
        · have hk : k = 32 := by have := of_decide_eq_false hc; omega
          subst hk
          rw [show outB h 32 ++ List.replicate (32 - 32) 0 = outB h 32 by simp]
          have hO : (outB h 32).length = 32 := outB_len h 32
          generalize outB h 32 = O at *
          refine .xgo ?_
          refine .seq ?_
          refine .reg ?_
          refine .ldw (h := ⟨rfl, inferInstance, inferInstance, rfl, by simpa using hO⟩) ?_
          refine .stw (h := ⟨rfl, rfl, inferInstance, inferInstance, ⟨by simpa [vc] using hO, rfl⟩, by simp [vc], by simp⟩) ?_
          refine .go ?_
          refine .r1w (h := ⟨inferInstance, rfl, rfl, inferInstance, inferInstance, rfl, by simpa [vc] using hO⟩) fun w hs => ?_
          refine ⟨rfl, hs.rows.rows.rows.rows.rows⟩
end Go.Proofs.YtpcechnalfaajaaDoor

/- sha.Of without a tape; history. -/
namespace Go.Proofs.YtpcechnalfaajaaDoor
open Go Go.Proofs

abbrev Part := Option Addr × Nat × List UInt8
def partV (x : Part) : Value := .slice x.1 x.2.2.length x.2.1
def catP (xs : List Part) : List UInt8 := xs.flatMap (·.2.2)
theorem catP_take (xs : List Part) (i : Nat) : (catP (xs.take i)).length ≤ (catP xs).length := by
  have e : (catP xs).length = (catP (xs.take i)).length + (catP (xs.drop i)).length := by
    conv => lhs; rw [← List.take_append_drop i xs]
    unfold catP
    rw [List.flatMap_append, List.length_append]
  omega
theorem catP_succ (xs : List Part) (i : Nat) (h : i < xs.length) : catP (xs.take (i + 1)) = catP (xs.take i) ++ xs[i].2.2 := by
  unfold catP
  rw [List.take_succ_eq_append_getElem h, List.flatMap_append]; simp
theorem Of_tr (xs : List Part) (hx : xs.length < 1000000) (hl : (catP xs).length < 1000000000) (q : Option Addr) (cap : Nat) (κ : Kap) (hκ : Laid κ) (cs : List HProp) (hq : RdS cs q (xs.map partV)) (hp : ∀ x ∈ xs, RdS cs x.1 (bv x.2.2)) :
    Tr Tryd.prog 80 [.pointer none, .slice q xs.length cap] κ cs (.agg (hcells (sha (catP xs))).toArray) cs := by
  refine .enter Tryd.func80 rfl rfl ?_
  refine .seq ?_
  refine .reg ?_
  refine .al fun b4 => ?_
  refine .go ?_
  refine .seq ?_
  refine .reg ?_
  refine .as ?_
  refine .go ?_
  refine .seq ?_
  refine .seq ?_
  refine .reg ?_
  refine .mv ?_
  refine .ln ?_
  refine .mv ?_
  refine .go ?_
  refine .ns 1 5 ?_
  refine .block ?_
  refine .lp (ι := Nat × Option Addr × Nat) (fun i => [(0, .pointer none), (4, .pointer (some ⟨b4, 0, none⟩)), (5, .slice i.2.1 (catP (xs.take i.1)).length i.2.2), (8, .slice q xs.length cap), (9, .int .i64 xs.length), (10, .int .i64 i.1)])
    (fun i => sl 1 (.slice i.2.1 (catP (xs.take i.1)).length i.2.2) (5, bv (catP (xs.take i.1))) :: pts b4 (35, bv (List.replicate 32 0)) :: cs)
    (fun i => i.1 ≤ xs.length) (fun i => xs.length - i.1) (0, none, 0) (by simp) (by repeat (first | exact trivial | refine ⟨rfl, ?_⟩)) rfl fun ⟨i, p, c⟩ hi => ?_
  have hi : i ≤ xs.length := hi
  refine .seq ?_
  refine .reg ?_
  refine .lt ?_
  refine .go ?_
  refine .seq ?_
  refine .cond rfl (fun hc => ?_) (fun hc => ?_)   -- t11
  · have hlt : i < xs.length := by have : (i : Int) < xs.length := of_decide_eq_true hc; omega
    refine .go ?_
    rcases hq with hq | ⟨bq, o, rfl, hq⟩
    · have := congrArg List.length hq
      simp at this; subst this; simp at hlt
    have hxi := hp xs[i] (List.getElem_mem hlt)
    have hsucc := catP_succ xs i hlt
    have hle := catP_take xs (i + 1)
    have hgv : getV false (xs.map partV) (((i : Nat) : Int).toNat * 1) 1 = some (partV xs[i]) := by
      rw [Nat.mul_one]; simp [getV, get1_eq, hlt]
    generalize xs[i] = x at *
    obtain ⟨px, cx, lx⟩ := x
    refine .seq ?_
    refine .block ?_
    refine .seq ?_
    refine .reg ?_
    refine .ix ?_
    refine .lx hgv ?_
    refine .as ?_
    refine .go ?_
    refine .reg ?_
    refine .mv ?_
    refine .mv ?_
    refine .ap (.tail (.tail hxi)) (fun p16 c16 => ?_) (show (bv lx).length = lx.length * 1 by simp) (bv_one lx) (hb := by
      have : (catP (xs.take (i + 1))).length = (catP (xs.take i)).length + lx.length := by rw [hsucc]; simp
      show (catP (xs.take i)).length + lx.length < _
      omega)
    refine .as ?_
    refine .go ?_
    refine .reg ?_
    refine .ad ?_
    refine .mv ?_
    rw [show ((i : Nat) : Int) + 1 = ((i + 1 : Nat) : Int) by omega]
    refine .nil fun aa w hf hs => ⟨(i + 1, p16, c16), by show i + 1 ≤ xs.length; omega, by show xs.length - (i + 1) < xs.length - i; omega, hf.to ?_, ?_⟩
    · rw [hsucc, List.length_append]
      repeat (first | exact trivial | refine ⟨rfl, ?_⟩)
    · rw [hsucc, List.length_append, ← bv_app]
      exact hs
  · have hi : i = xs.length := by have : ¬ (i : Int) < xs.length := of_decide_eq_false hc; omega
    subst hi
    rw [List.take_length]
    refine .xgo ?_
    refine .seq ?_
    refine .seq ?_
    refine .reg ?_
    refine .mv ?_
    refine .pnn ?_
    refine .go ?_
    refine .cond rfl (fun hc => by cases hc) (fun hc => ?_)   -- t19
    refine .go ?_
    refine .seq ?_
    refine .reg ?_
    refine .mv ?_
    refine .rds p (catP xs).length c 1 fun hrd _ => ?_
    refine .cl (sum_tr (catP xs) hl p c κ hκ _ hrd) ?_
    refine .stw (h := ⟨rfl, rfl, inferInstance, inferInstance, ⟨by simp [vc], rfl⟩, by simp [vc], by simp⟩) ?_
    refine .go ?_
    refine .r1w (h := ⟨inferInstance, rfl, rfl, inferInstance, inferInstance, rfl, by simp [vc]⟩) fun w hs => ?_
    exact ⟨by rw [vc_agg], hs.rows.rows⟩

end Go.Proofs.YtpcechnalfaajaaDoor

/- history. -/
namespace Go.Proofs.YtpcechnalfaajaaDoor
open Go Go.Proofs

theorem hcells_bv (h : Hash) : hcells h = bv h.l := rfl
theorem leaf_tr (l : List UInt8) (hl : l.length < 900000000) (p : Option Addr) (cap : Nat) (κ : Kap) (hκ : Laid κ) (cs : List HProp) (hr : RdS cs p (bv l)) :
    Tr Tryd.prog 78 [.pointer none, .slice p l.length cap] κ cs (.agg (hcells (leafN l)).toArray) cs := by
  refine .enter Tryd.func78 rfl rfl ?_
  obtain ⟨b, o, c, hc, h1, h2⟩ := hκ.leaf
  refine .seq ?_
  refine .reg ?_
  refine .al fun b4 => ?_
  refine .go ?_
  refine .seq ?_
  refine .reg ?_
  refine .sat (fun w hs => (hs.true h2).true h1) ?_
  refine .mv ?_
  refine .ld ?_
  refine .mv ?_
  refine .bs fun b8 => ?_
  refine .cl (Of_tr [(some ⟨b, o, none⟩, c, [0]), (p, cap, l)] (by simp) (by simp [catP]; omega) _ 2 κ hκ _ .of (by
    intro x hx
    simp only [List.mem_cons, List.not_mem_nil, or_false] at hx
    rcases hx with rfl | rfl
    · exact .of
    · exact hr.tail.tail.tail.tail)) ?_
  rw [show catP [(some ⟨b, o, none⟩, c, [0]), (p, cap, l)] = [0] ++ l by simp [catP]]
  refine .stw (h := ⟨rfl, rfl, inferInstance, inferInstance, ⟨by simp [vc], rfl⟩, by simp [vc], by simp⟩) ?_
  refine .go ?_
  refine .r1w (h := ⟨inferInstance, rfl, rfl, inferInstance, inferInstance, rfl, by simp [vc]⟩) fun w hs => ?_
  exact ⟨by rw [vc_agg]; rfl, hs.rows.rows.rows.rows⟩

theorem node_tr (x y : Hash) (κ : Kap) (hκ : Laid κ) (cs : List HProp) :
    Tr Tryd.prog 82 [.pointer none, .agg (hcells x).toArray, .agg (hcells y).toArray] κ cs (.agg (hcells (nodeN x y)).toArray) cs := by
  refine .enter Tryd.func82 rfl rfl ?_
  obtain ⟨b, o, c, hc, h1, h2⟩ := hκ.node
  refine .seq ?_
  refine .reg ?_
  refine .bx fun b4 => ?_
  refine .bx fun b5 => ?_
  refine .al fun b6 => ?_
  refine .go ?_
  refine .seq ?_
  rw [vc_agg, vc_agg]
  refine .sat (fun w hs => (hs.true h2).true h1) ?_
  refine .regD [(1, 0, [.slice (some ⟨b, o, none⟩) 1 c])] [] ?_
  refine .mv 0 ?_
  refine .ld 1 ?_
  refine .slw 2 ?_
  refine .slw 3 ?_
  refine .bs 4 fun b11 => ?_
  refine .cl 5 (Of_tr [(some ⟨b, o, none⟩, c, [1]), (some ⟨b4, 0, none⟩, 32, x.l), (some ⟨b5, 0, none⟩, 32, y.l)] (by simp) (by simp [catP, x.len, y.len]) (some ⟨b11, 0, none⟩) 3 κ hκ _ (by
      simp only [List.map_cons, List.map_nil, partV, x.len, y.len]; exact .of) (by
    intro z hz
    simp only [List.mem_cons, List.not_mem_nil, or_false] at hz
    rcases hz with rfl | rfl | rfl
    · exact .of
    · exact .inr ⟨_, _, rfl, (inferInstance : RdAt b4 _ 0 (hcells x))⟩
    · exact .inr ⟨_, _, rfl, (inferInstance : RdAt b5 _ 0 (hcells y))⟩)) ?_
  rw [show catP [(some ⟨b, o, none⟩, c, [1]), (some ⟨b4, 0, none⟩, 32, x.l), (some ⟨b5, 0, none⟩, 32, y.l)] = [1] ++ x.l ++ y.l by simp [catP]]
  refine .stw 6 (h := ⟨rfl, rfl, inferInstance, inferInstance, ⟨by rw [vc_agg]; exact hcells_len _, rfl⟩, by rw [vc_agg]; exact hcells_one _, rfl⟩) ?_
  refine .go ?_
  refine .r1w (h := ⟨inferInstance, rfl, rfl, inferInstance, inferInstance, rfl, by simp [vc]⟩) fun w hs => ?_
  exact ⟨by unfold nodeN; rw [vc_agg], hs.rows.rows.rows.rows.rows.rows⟩
theorem split_tr (m : Nat) (hm : m < 1000000000) (h2 : 2 ≤ m) (κ : Kap) (cs : List HProp) : Tr Tryd.prog 81 [.int .i64 m] κ cs (.int .i64 (splitN m)) cs := by
  refine .enter Tryd.func81 rfl rfl ?_
  refine .seq ?_
  refine .reg ?_
  refine .as ?_
  refine .go ?_
  refine .scope (ι := Nat) (fun k => [(0, .int .i64 m), (3, .int .i64 k)]) (fun _ => cs) (fun k => 0 < k ∧ k < m ∧ spl m k = splitN m) (fun k => m - k) ?_ (fun k hk => ?_)
  · refine .reg ?_
    refine .as ?_
    exact .nil fun aa w hf hs => ⟨1, ⟨by omega, by omega, rfl⟩, hf.to (by repeat (first | exact trivial | refine ⟨rfl, ?_⟩)), hs⟩
  · refine .seq ?_
    refine .seq ?_
    refine .reg ?_
    refine .mv ?_
    refine .mu ?_
    refine .mv ?_
    refine .lt ?_
    refine .go ?_
    obtain ⟨hk0, hkm, hsp⟩ := hk
    refine .cond rfl (fun hc => ?_) (fun hc => ?_)
    · have hlt : 2 * k < m := by have : 2 * (k : Int) < m := of_decide_eq_true hc; omega
      refine .seq ?_
      refine .reg ?_
      refine .mv ?_
      refine .mu ?_
      refine .as ?_
      refine .go ?_
      rw [show (k : Int) * 2 = ((2 * k : Nat) : Int) by omega]
      refine .goto fun aa w hf hs => ⟨rfl, 2 * k, ⟨by omega, by omega, ?_⟩, by omega, hf.to (by repeat (first | exact trivial | refine ⟨rfl, ?_⟩)), hs⟩
      rw [← hsp]; conv => rhs; rw [spl, dif_pos ⟨hk0, hlt⟩]
    · have hge : ¬ 2 * k < m := by have : ¬ 2 * (k : Int) < m := of_decide_eq_false hc; omega
      refine .go ?_
      refine .seq ?_
      refine .reg ?_
      refine .mv ?_
      refine .as ?_
      refine .go ?_
      rw [spl, dif_neg (fun h => hge h.2)] at hsp
      rw [hsp]
      refine .r1 fun w hs => ?_
      exact ⟨rfl, hs⟩

theorem root_tr : ∀ (N : Nat) (l : List Hash), l.length ≤ N → l.length < 100000 → ∀ (q : Option Addr) (cap : Nat) (_ : l.length ≤ cap) (κ : Kap) (_ : Laid κ) (cs : List HProp) (_ : RdS cs q (l.flatMap hcells)),
    Tr Tryd.prog 74 [.pointer none, .slice q l.length cap] κ cs (.agg (hcells (rootN l)).toArray) cs := by
  intro N
  induction N with
  | zero =>
    intro l hN hl q cap hcap κ hκ cs hq
    have : l = [] := List.eq_nil_of_length_eq_zero (by omega)
    subst this
    refine .enter Tryd.func74 rfl rfl ?_
    refine .seq ?_
    refine .reg ?_
    refine .al fun b4 => ?_
    refine .go ?_
    refine .seq ?_
    refine .seq ?_
    refine .reg ?_
    refine .mv ?_
    refine .ln ?_
    refine .go ?_
    refine .block ?_
    refine .seq ?_
    refine .reg ?_
    refine .eq ?_
    refine .as ?_
    refine .go ?_
    refine .cond rfl (fun hc => ?_) (fun hc => by cases hc)   -- t8
    refine .seq ?_
    refine .reg ?_
    refine .mv ?_
    refine .cl (Of_tr [] (by simp) (by decide) none 0 κ hκ _ (.inl rfl) (by simp)) ?_
    refine .stw (h := ⟨rfl, rfl, inferInstance, inferInstance, ⟨by rw [vc_agg]; exact hcells_len _, rfl⟩, by rw [vc_agg]; exact hcells_one _, rfl⟩) ?_
    refine .go ?_
    refine .r1w (h := ⟨inferInstance, rfl, rfl, inferInstance, inferInstance, rfl, by rw [vc_agg]; exact hcells_len _⟩) fun w hs => ?_
    exact ⟨by rw [vc_agg, rootN_nil, show catP [] = [] from rfl], hs.rows⟩
  | succ N ih =>
    intro l hN hl q cap hcap κ hκ cs hq
    by_cases h0 : l.length ≤ N
    · exact ih l h0 hl q cap hcap κ hκ cs hq
    refine .enter Tryd.func74 rfl rfl ?_
    rcases hq with hq | ⟨b, o, rfl, hq⟩
    · have := congrArg List.length hq
      rw [flat_len hcells 32 hcells_len] at this
      simp at this
      omega
    refine .seq ?_
    refine .reg ?_
    refine .al fun b4 => ?_
    refine .go ?_
    refine .seq ?_
    refine .seq ?_
    refine .reg ?_
    refine .mv ?_
    refine .ln ?_
    refine .go ?_
    refine .block ?_
    refine .seq ?_
    refine .reg ?_
    refine .eq ?_
    refine .as ?_
    refine .go ?_
    refine .cond rfl (fun hc => ?_) (fun hc => ?_)   -- t8
    · have : (l.length : Int) = 0 := of_decide_eq_true hc
      omega
    · refine .seq ?_
      refine .reg ?_
      refine .eq ?_
      refine .as ?_
      refine .go ?_
      refine .cond rfl (fun hc => ?_) (fun hc => ?_)   -- t12
      · have h1 : l.length = 1 := by have : (l.length : Int) = 1 := of_decide_eq_true hc; omega
        obtain ⟨x, rfl⟩ := List.length_eq_one_iff.1 h1
        refine .seq ?_
        refine .reg ?_
        refine .mv ?_
        refine .ix ?_
        refine .lx (flat_get hcells 32 hcells_len [x] 0 0 32 true (.agg (hcells x).toArray) (by simp) (getV_whole (hcells_len x))) ?_
        refine .stw (h := ⟨rfl, rfl, inferInstance, inferInstance, ⟨by rw [vc_agg]; exact hcells_len _, rfl⟩, by rw [vc_agg]; exact hcells_one _, rfl⟩) ?_
        refine .go ?_
        refine .r1w (h := ⟨inferInstance, rfl, rfl, inferInstance, inferInstance, rfl, by rw [vc_agg]; exact hcells_len _⟩) fun w hs => ?_
        exact ⟨by rw [vc_agg, rootN_one], hs.rows⟩
      · have h2 : 2 ≤ l.length := by have : ¬ (l.length : Int) = 1 := of_decide_eq_false hc; omega
        rw [rootN_two l h2]
        obtain ⟨k0, k1⟩ := splitN_bound l.length h2
        refine .go ?_
        refine .seq ?_
        refine .reg ?_
        refine .mv ?_
        refine .ln ?_
        refine .cl (split_tr l.length (by omega) h2 κ _) ?_
        generalize splitN l.length = k at *
        refine .as ?_
        refine .go ?_
        refine .seq ?_
        refine .regD [] [] ?_
        refine .mv 0 ?_
        refine .mv 1 ?_
        refine .mv 2 ?_
        refine .mv 3 ?_
        refine .slc 0 k 4 ?_
        rw [if_neg (by omega), Option.map_some, Addr.add_plain, Nat.zero_mul, Nat.sub_zero, Nat.sub_zero, Nat.add_zero]
        refine .mv 6 ?_
        refine .mv 7 ?_
        refine .mv 8 ?_
        refine .slc k l.length 9 ?_
        rw [if_neg (by omega), Option.map_some, Addr.add_plain]
        have r1 : ∀ c, RdS (c :: cs) (some ⟨b, o, none⟩) ((l.take k).flatMap hcells) := fun c => .inr ⟨_, _, rfl, by
          rw [flat_take hcells 32 hcells_len]; exact .tail (h := hq.take _)⟩
        have r2 : ∀ c, RdS (c :: cs) (some ⟨b, o + k * 32, none⟩) ((l.drop k).flatMap hcells) := fun c => .inr ⟨_, _, rfl, by
          rw [flat_drop hcells 32 hcells_len]; exact .tail (h := hq.drop _ (by rw [flat_len hcells 32 hcells_len]; omega))⟩
        have e1 : (l.take k).length = k := by simp; omega
        have e2 : (l.drop k).length = l.length - k := by simp
        have t1 := ih (l.take k) (by omega) (by omega) (some ⟨b, o, none⟩) cap (by omega) κ hκ _ (r1 (pts b4 (35, bv (List.replicate 32 0))))
        have t2 := ih (l.drop k) (by omega) (by omega) (some ⟨b, o + k * 32, none⟩) (cap - k) (by omega) κ hκ _ (r2 (pts b4 (35, bv (List.replicate 32 0))))
        rw [e1] at t1
        rw [e2] at t2
        refine .cl 5 t1 ?_
        refine .cl 10 t2 ?_
        refine .cl 11 (node_tr _ _ κ hκ _) ?_
        refine .stw 12 (h := ⟨rfl, rfl, inferInstance, inferInstance, ⟨by rw [vc_agg]; exact hcells_len _, rfl⟩, by rw [vc_agg]; exact hcells_one _, rfl⟩) ?_
        refine .go ?_
        refine .r1w (h := ⟨inferInstance, rfl, rfl, inferInstance, inferInstance, rfl, by rw [vc_agg]; exact hcells_len _⟩) fun w hs => ?_
        exact ⟨by rw [vc_agg], hs.rows⟩
end Go.Proofs.YtpcechnalfaajaaDoor

/- u128.Bytes; wire's Writer. -/
namespace Go.Proofs.YtpcechnalfaajaaDoor
open Go Go.Proofs

def nword (x : Num) (k : Nat) : Int := if 8 ≤ k then ((x.toNat / 18446744073709551616 : Nat) : Int) else ((x.toNat % 18446744073709551616 : Nat) : Int)
def nbytes (x : Num) : Nat → List UInt8
  | 0 => []
  | j + 1 => nbytes x j ++ [toB (shrK .u64 (nword x (15 - j)) (8 * ((15 - j) % 8 : Nat)))]
def numB (x : Num) : List UInt8 := nbytes x 16
@[simp] theorem nbytes_len (x : Num) (j : Nat) : (nbytes x j).length = j := by
  induction j with
  | zero => rfl
  | succ j ih => simp [nbytes, ih]
@[simp] theorem numB_len (x : Num) : (numB x).length = 16 := nbytes_len x 16

theorem bytes_tr (x : Num) (κ : Kap) (cs : List HProp) : Te Tryd.prog 88 [.agg (nm x).toArray] κ cs (fun _ : Option Addr × Nat => True) (fun i => .slice i.1 16 i.2) (fun i => sl 1 (.slice i.1 16 i.2) (5, bv (numB x)) :: cs) := by
  refine .enter Tryd.func88 rfl rfl ?_
  refine .seq ?_
  refine .reg ?_
  refine .bx fun b1 => ?_
  refine .as ?_
  refine .go ?_
  refine .seq ?_
  refine .reg ?_
  refine .mks (a := 0) (c := 16) fun b3 => ?_
  refine .as ?_
  refine .go ?_
  refine .seq ?_
  refine .seq ?_
  refine .reg ?_
  refine .as ?_
  refine .go ?_
  refine .block ?_
  refine .lp (ι := Nat × Option Addr × Nat) (fun i => [(1, .pointer (some ⟨b1, 0, none⟩)), (3, .slice i.2.1 i.1 i.2.2), (4, .int .i64 (15 - (i.1 : Int)))])
    (fun i => sl 1 (.slice i.2.1 i.1 i.2.2) (5, bv (nbytes x i.1)) :: pts b1 (24, nm x) :: cs) (fun i => i.1 ≤ 16) (fun i => 16 - i.1) (0, some ⟨b3, 0, none⟩, 16) (by simp) (by repeat (first | exact trivial | refine ⟨rfl, ?_⟩)) rfl fun ⟨j, p, c⟩ hj => ?_
  have hj : j ≤ 16 := hj
  refine .seq ?_
  refine .seq ?_
  refine .reg ?_
  refine .mv ?_
  refine .ge ?_
  refine .go ?_
  refine .cond rfl (fun hc => ?_) (fun hc => ?_)   -- t8
  · have hlt : j < 16 := by have : (0 : Int) ≤ 15 - (j : Int) := of_decide_eq_true hc; omega
    refine .go ?_
    refine .seq ?_
    refine .block ?_
    refine .seq ?_
    refine .reg ?_
    refine .fa ?_
    refine .ld ?_
    refine .as ?_
    refine .go ?_
    refine .jn (ι := Unit) (fun _ => [(1, .pointer (some ⟨b1, 0, none⟩)), (3, .slice p j c), (4, .int .i64 (15 - (j : Int))), (5, .int .u64 (nword x (15 - j)))])
      (fun _ => sl 1 (.slice p j c) (5, bv (nbytes x j)) :: pts b1 (24, nm x) :: cs) (fun _ => True) ?_ (fun _ _ => ?_)
    · refine .seq ?_
      refine .reg ?_
      refine .mv ?_
      refine .ge ?_
      refine .go ?_
      refine .cond rfl (fun hc => ?_) (fun hc => ?_)   -- t14
      · have h8 : 8 ≤ 15 - j := by have : (8 : Int) ≤ 15 - (j : Int) := of_decide_eq_true hc; omega
        refine .reg ?_
        refine .fa ?_
        refine .ld ?_
        refine .as ?_
        refine .nil fun aa w hf hs => ⟨(), trivial, hf.to ?_, hs⟩
        rw [nword, if_pos h8]
        repeat (first | exact trivial | refine ⟨rfl, ?_⟩)
      · have h8 : ¬ 8 ≤ 15 - j := by have : ¬ (8 : Int) ≤ 15 - (j : Int) := of_decide_eq_false hc; omega
        refine .skip fun aa w hf hs => ⟨(), trivial, hf.to ?_, hs⟩
        rw [nword, if_neg h8]
        repeat (first | exact trivial | refine ⟨rfl, ?_⟩)
    · have hrem : (15 - (j : Int)).tmod 8 = (((15 - j) % 8 : Nat) : Int) := by
        rw [show 15 - (j : Int) = ((15 - j : Nat) : Int) by omega]; rfl
      refine .reg ?_
      refine .mv ?_
      refine .mv ?_
      refine .mv ?_
      refine .rem ?_
      rw [hrem]
      refine .mu ?_
      refine .shr ?_
      refine .cv ?_
      rw [u8_byte]
      refine .bs fun b24 => ?_
      refine .ap .of (fun p25 c25 => ?_) rfl rfl
      refine .as ?_
      refine .go ?_
      refine .reg ?_
      refine .mv ?_
      refine .sb ?_
      refine .as ?_
      rw [show (15 - (j : Int)) - 1 = 15 - ((j + 1 : Nat) : Int) by omega]
      exact .nil fun aa w hf hs => ⟨(j + 1, p25, c25), by show j + 1 ≤ 16; omega, by show 16 - (j + 1) < 16 - j; omega, hf.to (by repeat (first | exact trivial | refine ⟨rfl, ?_⟩)), by
        have e : bv (nbytes x (j + 1)) = bv (nbytes x j) ++ bv [toB (shrK .u64 (nword x (15 - j)) (8 * ((15 - j) % 8 : Nat)))] := by rw [bv_app]; rfl
        show Sat κ w (sl 1 _ (_, bv (nbytes x (j + 1))) :: _)
        rw [e]
        exact hs.rows⟩
  · have hj : j = 16 := by have : ¬ (0 : Int) ≤ 15 - (j : Int) := of_decide_eq_false hc; omega
    subst hj
    refine .xgo ?_
    refine .seq ?_
    refine .reg ?_
    refine .mv ?_
    refine .as ?_
    refine .go ?_
    refine .r1 fun w hs => ?_
    exact ⟨(p, c), trivial, rfl, hs.dr 1⟩

/-- A Writer that laid these bytes. -/
abbrev wrC (bw : Nat) (l : List UInt8) (i : Option Addr × Nat) (cs : List HProp) : List HProp := pts bw (146, [.slice i.1 l.length i.2]) :: sl 1 (.slice i.1 l.length i.2) (5, bv l) :: cs
def numsB (xs : List Num) : List UInt8 := xs.flatMap numB
theorem numsB_len (xs : List Num) : (numsB xs).length = xs.length * 16 := by
  unfold numsB
  induction xs with
  | nil => rfl
  | cons x t ih => rw [List.flatMap_cons, List.length_append, ih]; simp; omega
theorem wnum_tr (xs : List Num) (hx : xs.length < 1000000) (q : Option Addr) (cap : Nat) (bw : Nat) (l : List UInt8) (hl : l.length < 1000000000) (i0 : Option Addr × Nat) (κ : Kap) (cs : List HProp) (hq : RdS cs q (xs.flatMap nm)) :
    Te Tryd.prog 84 [.pointer (some ⟨bw, 0, none⟩), .slice q xs.length cap] κ (wrC bw l i0 cs) (fun _ : Option Addr × Nat => True) (fun _ => .pointer (some ⟨bw, 0, none⟩)) (fun i => wrC bw (l ++ numsB xs) i cs) := by
  refine .enter Tryd.func84 rfl rfl ?_
  refine .seq ?_
  refine .reg ?_
  refine .as ?_
  refine .go ?_
  refine .seq ?_
  refine .seq ?_
  refine .reg ?_
  refine .mv ?_
  refine .ln ?_
  refine .mv ?_
  refine .go ?_
  refine .block ?_
  refine .lp (ι := Nat × Option Addr × Nat) (fun i => [(0, .pointer (some ⟨bw, 0, none⟩)), (7, .slice q xs.length cap), (8, .int .i64 xs.length), (9, .int .i64 i.1)])
    (fun i => wrC bw (l ++ numsB (xs.take i.1)) i.2 cs) (fun i => i.1 ≤ xs.length) (fun i => xs.length - i.1) (0, i0) (by simp) (by repeat (first | exact trivial | refine ⟨rfl, ?_⟩)) (by simp [numsB]) fun s hi => ?_
  refine .seq ?_
  refine .reg ?_
  refine .lt ?_
  refine .go ?_
  refine .seq ?_
  refine .cond rfl (fun hc => ?_) (fun hc => ?_)   -- t10
  · have hlt : s.1 < xs.length := by have : (s.1 : Int) < xs.length := of_decide_eq_true hc; omega
    rcases hq with hq | ⟨bq, o, rfl, hq⟩
    · have := congrArg List.length hq
      rw [flat_len nm 2 nm_len, List.length_nil] at this
      omega
    have hlen : (numsB (xs.take s.1)).length = s.1 * 16 := by rw [numsB_len]; simp; omega
    have hsucc : numsB (xs.take (s.1 + 1)) = numsB (xs.take s.1) ++ numB xs[s.1] := by
      unfold numsB; rw [List.take_succ_eq_append_getElem hlt, List.flatMap_append]; simp
    refine .go ?_
    refine .seq ?_
    refine .block ?_
    refine .seq ?_
    refine .reg ?_
    refine .ix ?_
    refine .lx (flat_get nm 2 nm_len xs s.1 0 2 true (.agg (nm xs[s.1]).toArray) hlt rfl) ?_
    generalize xs[s.1] = x at *
    refine .al fun b6 => ?_
    refine .stw ?_
    refine .go ?_
    rw [vc_agg]
    refine .regD [(bw, 0, [.slice s.2.1 (l ++ numsB (xs.take s.1)).length s.2.2]), (b6, 0, nm x)] [10] ?_
    refine .mv 0 ?_
    refine .mv 1 ?_
    refine .nc 2 ?_
    refine .fa 3 ?_
    refine .ld 4 ?_
    refine .ld 5 ?_
    refine .ce 6 (bytes_tr x κ _) (fun r _ => ?_)
    refine .rds r.1 16 r.2 1 fun hrd _ => ?_
    refine .ap 7 hrd (fun p20 c20 => ?_) (show (bv (numB x)).length = 16 * 1 by simp) (bv_one _) (hb := by rw [List.length_append, hlen]; omega)
    refine .nc 8 ?_
    refine .fa 9 ?_
    refine .st 10 ?_
    refine .go ?_
    refine .reg ?_
    refine .ad ?_
    refine .mv ?_
    rw [show ((s.1 : Nat) : Int) + 1 = ((s.1 + 1 : Nat) : Int) by omega]
    refine .nil fun aa w hf hs => ⟨(s.1 + 1, p20, c20), by show s.1 + 1 ≤ xs.length; omega, by show xs.length - (s.1 + 1) < xs.length - s.1; omega, hf.to (by repeat (first | exact trivial | refine ⟨rfl, ?_⟩)), ?_⟩
    have e1 : l ++ numsB (xs.take (s.1 + 1)) = (l ++ numsB (xs.take s.1)) ++ numB x := by rw [hsucc, List.append_assoc]
    have e2 : (l ++ numsB (xs.take s.1)).length + 16 = ((l ++ numsB (xs.take s.1)) ++ numB x).length := by simp; omega
    show Sat κ w (wrC bw (l ++ numsB (xs.take (s.1 + 1))) (p20, c20) cs)
    have hs := hs.rows.rows
    rw [e2, bv_app] at hs
    rw [e1]
    exact hs
  · have hi : s.1 = xs.length := by have : ¬ (s.1 : Int) < xs.length := of_decide_eq_false hc; have : s.1 ≤ xs.length := hi; omega
    rw [hi, List.take_length]
    refine .xgo ?_
    refine .seq ?_
    refine .reg ?_
    refine .mv ?_
    refine .as ?_
    refine .go ?_
    refine .r1 fun w hs => ?_
    exact ⟨s.2, trivial, rfl, hs⟩

def intB' (n : Nat) (y : Int) : Nat → List UInt8
  | 0 => []
  | j + 1 => intB' n y j ++ [toB (shrK .i64 y (8 * ((n : Int) - 1 - (j : Int))))]
def intB (n : Nat) (y : Int) : List UInt8 := intB' n y n
def intsB (n : Nat) (xs : List Int) : List UInt8 := xs.flatMap (intB n)
@[simp] theorem intB'_len (n : Nat) (y : Int) (j : Nat) : (intB' n y j).length = j := by
  induction j with
  | zero => rfl
  | succ j ih => simp [intB', ih]
@[simp] theorem intB_len (n : Nat) (y : Int) : (intB n y).length = n := intB'_len n y n
theorem intsB_len (n : Nat) (xs : List Int) : (intsB n xs).length = xs.length * n := by
  unfold intsB
  induction xs with
  | nil => simp
  | cons x t ih => rw [List.flatMap_cons, List.length_append, ih, List.length_cons, Nat.succ_mul]; simp; omega
theorem wint_tr (n : Nat) (hn : n ≤ 8) (xs : List Int) (hx : xs.length < 1000000) (q : Option Addr) (cap : Nat) (bw : Nat) (l : List UInt8) (hl : l.length < 1000000000) (i0 : Option Addr × Nat) (κ : Kap) (cs : List HProp) (hq : RdS cs q (cells .i64 xs)) :
    Te Tryd.prog 85 [.pointer (some ⟨bw, 0, none⟩), .int .i64 n, .slice q xs.length cap] κ (wrC bw l i0 cs) (fun _ : Option Addr × Nat => True) (fun _ => .pointer (some ⟨bw, 0, none⟩)) (fun i => wrC bw (l ++ intsB n xs) i cs) := by
  refine .enter Tryd.func85 rfl rfl ?_
  refine .seq ?_
  refine .reg ?_
  refine .as ?_
  refine .go ?_
  refine .seq ?_
  refine .seq ?_
  refine .reg ?_
  refine .mv ?_
  refine .ln ?_
  refine .mv ?_
  refine .go ?_
  refine .block ?_
  refine .lp (ι := Nat × Option Addr × Nat) (fun i => [(0, .pointer (some ⟨bw, 0, none⟩)), (1, .int .i64 n), (10, .slice q xs.length cap), (11, .int .i64 xs.length), (12, .int .i64 i.1)])
    (fun i => wrC bw (l ++ intsB n (xs.take i.1)) i.2 cs) (fun i => i.1 ≤ xs.length) (fun i => xs.length - i.1) (0, i0) (by simp) (by repeat (first | exact trivial | refine ⟨rfl, ?_⟩)) (by simp [intsB]) fun s hi => ?_
  refine .seq ?_
  refine .reg ?_
  refine .lt ?_
  refine .go ?_
  refine .seq ?_
  refine .cond rfl (fun hc => ?_) (fun hc => ?_)   -- t13
  · have hlt : s.1 < xs.length := by have : (s.1 : Int) < xs.length := of_decide_eq_true hc; omega
    rcases hq with hq | ⟨bq, o, rfl, hq⟩
    · have := congrArg List.length hq
      rw [cells_len, List.length_nil] at this
      omega
    have hlen : (intsB n (xs.take s.1)).length = s.1 * n := by rw [intsB_len]; simp; rw [Nat.min_eq_left hi]
    have hbig : s.1 * n ≤ 1000000 * 8 := Nat.mul_le_mul (by omega) hn
    have hsucc : intsB n (xs.take (s.1 + 1)) = intsB n (xs.take s.1) ++ intB n xs[s.1] := by
      unfold intsB; rw [List.take_succ_eq_append_getElem hlt, List.flatMap_append]; simp
    have hg : getV false (cells .i64 xs) (((s.1 : Nat) : Int).toNat * 1) 1 = some (.int .i64 xs[s.1]) := by
      rw [Nat.mul_one, Int.toNat_natCast, cells_get _ _ _ hlt]; simp [List.getD, hlt]
    generalize xs[s.1] = x at *
    generalize hA : l ++ intsB n (xs.take s.1) = A at *
    have hAl : A.length < 1010000000 := by rw [← hA, List.length_append, hlen]; omega
    refine .go ?_
    refine .seq ?_
    refine .block ?_
    refine .seq ?_
    refine .reg ?_
    refine .ix ?_
    refine .lx hg ?_
    refine .as ?_
    refine .go ?_
    refine .seq ?_
    refine .reg ?_
    refine .mv ?_
    refine .sb ?_
    refine .as ?_
    refine .go ?_
    refine .block ?_
    refine .lp (ι := Nat × Option Addr × Nat) (fun i => [(0, .pointer (some ⟨bw, 0, none⟩)), (1, .int .i64 n), (8, .int .i64 x), (10, .slice (some ⟨bq, o, none⟩) xs.length cap), (11, .int .i64 xs.length), (12, .int .i64 s.1), (9, .int .i64 ((n : Int) - 1 - (i.1 : Int)))])
      (fun i => wrC bw (A ++ intB' n x i.1) i.2 cs) (fun i => i.1 ≤ n) (fun i => n - i.1) (0, s.2) (by simp) (by refine ⟨rfl, rfl, rfl, rfl, rfl, rfl, ?_, trivial⟩; simp [look]) (by simp [intB']) fun r hr => ?_
    refine .seq ?_
    refine .seq ?_
    refine .reg ?_
    refine .mv ?_
    refine .ge ?_
    refine .go ?_
    refine .cond rfl (fun hc => ?_) (fun hc => ?_)   -- t19
    · have hj : r.1 < n := by have : (0 : Int) ≤ (n : Int) - 1 - (r.1 : Int) := of_decide_eq_true hc; omega
      refine .go ?_
      refine .seq ?_
      refine .block ?_
      refine .regD [(bw, 0, [.slice r.2.1 (A ++ intB' n x r.1).length r.2.2])] [14] ?_
      refine .mv 0 ?_
      refine .mv 1 ?_
      refine .nc 2 ?_
      refine .fa 3 ?_
      refine .ld 4 ?_
      refine .mv 5 ?_
      refine .mv 6 ?_
      refine .mu 7 ?_
      refine .shr 8 ?_
      refine .cv 9 ?_
      rw [u8_byte]
      refine .bs 10 fun b32 => ?_
      refine .ap 11 .of (fun p33 c33 => ?_) rfl rfl (hb := by simp; omega)
      refine .nc 12 ?_
      refine .fa 13 ?_
      refine .st 14 ?_
      refine .go ?_
      refine .reg ?_
      refine .mv ?_
      refine .sb ?_
      refine .as ?_
      rw [show (n : Int) - 1 - (r.1 : Int) - 1 = (n : Int) - 1 - ((r.1 + 1 : Nat) : Int) by omega]
      refine .nil fun aa w hf hs => ⟨(r.1 + 1, p33, c33), by show r.1 + 1 ≤ n; omega, by show n - (r.1 + 1) < n - r.1; omega, hf.to (by repeat (first | exact trivial | refine ⟨rfl, ?_⟩)), ?_⟩
      have e1 : A ++ intB' n x (r.1 + 1) = (A ++ intB' n x r.1) ++ [toB (shrK .i64 x (8 * ((n : Int) - 1 - (r.1 : Int))))] := by rw [List.append_assoc]; rfl
      show Sat κ w (wrC bw (A ++ intB' n x (r.1 + 1)) (p33, c33) cs)
      have hs := hs.rows
      rw [e1]
      have e2 : ((A ++ intB' n x r.1) ++ [toB (shrK .i64 x (8 * ((n : Int) - 1 - (r.1 : Int))))]).length = (A ++ intB' n x r.1).length + 1 := by simp; omega
      show Sat κ w (pts bw (_, [.slice p33 _ c33]) :: sl 1 (.slice p33 _ c33) (_, bv _) :: cs)
      rw [e2, ← bv_app]
      exact hs
    · have hj : r.1 = n := by
        have h1 : ¬ (0 : Int) ≤ (n : Int) - 1 - (r.1 : Int) := of_decide_eq_false hc
        have h2 : r.1 ≤ n := hr
        omega
      refine .xgo ?_
      refine .reg ?_
      refine .ad ?_
      refine .mv ?_
      rw [show ((s.1 : Nat) : Int) + 1 = ((s.1 + 1 : Nat) : Int) by omega]
      refine .nil fun aa w hf hs => ⟨(s.1 + 1, r.2), by show s.1 + 1 ≤ xs.length; omega, by show xs.length - (s.1 + 1) < xs.length - s.1; omega, hf.to (by repeat (first | exact trivial | refine ⟨rfl, ?_⟩)), ?_⟩
      show Sat κ w (wrC bw (l ++ intsB n (xs.take (s.1 + 1))) r.2 cs)
      rw [hsucc, ← List.append_assoc, hA, show intB n x = intB' n x r.1 by rw [hj]; rfl]
      exact hs
  · have hi : s.1 = xs.length := by have : ¬ (s.1 : Int) < xs.length := of_decide_eq_false hc; have : s.1 ≤ xs.length := hi; omega
    rw [hi, List.take_length]
    refine .xgo ?_
    refine .seq ?_
    refine .reg ?_
    refine .mv ?_
    refine .as ?_
    refine .go ?_
    refine .r1 fun w hs => ?_
    exact ⟨s.2, trivial, rfl, hs⟩
theorem wbytes_tr (bw : Nat) (l : List UInt8) (hl : l.length < 1000000000) (i0 : Option Addr × Nat) (κ : Kap) (cs : List HProp) :
    Te Tryd.prog 86 [.pointer (some ⟨bw, 0, none⟩)] κ (wrC bw l i0 cs) (fun _ : Option Addr × Nat => True) (fun i => .slice i.1 l.length i.2) (fun i => sl 1 (.slice i.1 l.length i.2) (5, bv l) :: wrC bw l i0 cs) := by
  refine .enter Tryd.func86 rfl rfl ?_
  refine .seq ?_
  refine .reg ?_
  refine .as ?_
  refine .go ?_
  refine .seq ?_
  refine .reg ?_
  refine .mv ?_
  refine .nc ?_
  refine .fa ?_
  refine .ld ?_
  refine .rds i0.1 l.length i0.2 1 (hrd := by intro b hb; unfold wrC; rw [hb]; infer_instance) fun hrd _ => ?_
  refine .ns 1 5 ?_
  refine .ap hrd.tail (fun p7 c7 => ?_) (show (bv l).length = l.length * 1 by simp) (bv_one l)
  rw [Nat.zero_add, List.nil_append]
  refine .as ?_
  refine .go ?_
  refine .r1 fun w hs => ?_
  exact ⟨(p7, c7), trivial, rfl, hs⟩
end Go.Proofs.YtpcechnalfaajaaDoor

/- wire.Row. -/
namespace Go.Proofs.YtpcechnalfaajaaDoor
open Go Go.Proofs

theorem wr_in {κ : Kap} {F cs : List HProp} {bw : Nat} {l : List UInt8} {i : Option Addr × Nat} {g : Hp} (h : sepL κ (wrC bw l i (F ++ cs)) g) : sepL κ (F ++ wrC bw l i cs) g :=
  sepL_in F (sepL_tail (fun _ h => sepL_in F h) h)
theorem wr_out {κ : Kap} {F cs : List HProp} {bw : Nat} {l : List UInt8} {i : Option Addr × Nat} {g : Hp} (h : sepL κ (F ++ wrC bw l i cs) g) : sepL κ (wrC bw l i (F ++ cs)) g :=
  sepL_tail (fun _ h => sepL_out F h) (sepL_out F h)
theorem sepL_mid {κ : Kap} : ∀ (F : List HProp) {c : HProp} {t : List HProp} {g : Hp}, sepL κ (F ++ c :: t) g → sepL κ (F ++ t) g := by
  intro F
  induction F with
  | nil => intro c t g h; exact sepL_sub_tail h
  | cons z t ih => intro c t g h; exact sepL_tail (fun g h => ih h) h
/-- A Writer's contract beside other rows. -/
theorem Te.wr {P : Program} {f : FuncId} {args : List Value} {κ : Kap} {F cs : List HProp} {a : HProp} {bw : Nat} {l l' : List UInt8} {i0 : Option Addr × Nat} {r : Option Addr × Nat → Value}
    (t : Te P f args κ (wrC bw l i0 (F ++ (a :: cs))) (fun _ => True) r (fun i => wrC bw l' i (F ++ (a :: cs)))) :
    Te P f args κ (F ++ (a :: wrC bw l i0 cs)) (fun _ => True) r (fun i => F ++ wrC bw l' i cs) := by
  intro w hs
  have h1 : Sat κ w (wrC bw l i0 (F ++ (a :: cs))) := by
    refine hs.imp fun g h => ?_
    have h2 : sepL κ ((F ++ [a]) ++ wrC bw l i0 cs) g := by simpa using h
    have h3 := wr_out h2
    simpa using h3
  refine (t w h1).mono fun e w' ⟨i, hp, he, hs'⟩ => ⟨i, hp, he, hs'.imp fun g h => ?_⟩
  refine wr_in (sepL_tail (fun g h => sepL_tail (fun g h => sepL_mid F h) h) h)
theorem Te.wr0 {P : Program} {f : FuncId} {args : List Value} {κ : Kap} {cs : List HProp} {a : HProp} {bw : Nat} {l l' : List UInt8} {i0 : Option Addr × Nat} {r : Option Addr × Nat → Value}
    (t : Te P f args κ (wrC bw l i0 (a :: cs)) (fun _ => True) r (fun i => wrC bw l' i (a :: cs))) :
    Te P f args κ (a :: wrC bw l i0 cs) (fun _ => True) r (fun i => wrC bw l' i cs) := Te.wr (F := []) t
def rowB (r : Row) : List UInt8 := numsB [r.tr] ++ intsB 6 [r.time] ++ intsB 2 [r.event + 1] ++ numsB [r.amount, r.dp, r.dq, r.cp, r.cq]
theorem rowB_len (r : Row) : (rowB r).length = 104 := by
  simp only [rowB, List.length_append, numsB_len, intsB_len]; rfl
theorem row_tr (r : Row) (hr : -1000000000000 ≤ r.event ∧ r.event ≤ 1000000000000) (κ : Kap) (cs : List HProp) :
    Te Tryd.prog 79 [.agg (encR r).toArray] κ cs (fun _ : Option Addr × Nat => True) (fun i => .slice i.1 104 i.2) (fun i => sl 1 (.slice i.1 104 i.2) (5, bv (rowB r)) :: cs) := by
  refine .enter Tryd.func79 rfl rfl ?_
  refine .seq ?_
  refine .reg ?_
  refine .bx fun b1 => ?_
  refine .as ?_
  refine .go ?_
  refine .seq ?_
  refine .reg ?_
  refine .al fun b3 => ?_
  refine .go ?_
  refine .seq ?_
  refine .sat (cs' := wrC b3 [] (none, 0) (pts b1 (71, vc (.agg (encR r).toArray)) :: cs)) (fun w hs => (hs.nilS 1 5).imp fun g hg => sepL_swap hg) ?_
  refine .regD [(b1, 0, vc (.agg (encR r).toArray))] [] ?_
  refine .fa 0 ?_
  refine .ld 1 ?_
  refine .fa 4 ?_
  refine .ld 5 ?_
  refine .fa 8 ?_
  refine .ld 9 ?_
  refine .ad 10 ?_
  refine .fa 13 ?_
  refine .ld 14 ?_
  refine .fa 15 ?_
  refine .ld 16 ?_
  refine .fa 17 ?_
  refine .ld 18 ?_
  refine .fa 19 ?_
  refine .ld 20 ?_
  refine .fa 21 ?_
  refine .ld 22 ?_
  refine .pend ?_
  refine .bs 23 ?_
  refine .bs 11 ?_
  refine .bs 6 ?_
  refine .bs 2 ?_
  refine .com fun b6 => ?_
  refine .ce 3 (fun F => Te.wr (wnum_tr [r.tr] (by simp) _ 1 b3 [] (by simp) (none, 0) κ _ (.app .of))) (fun i1 _ => ?_)
  refine .com fun b10 => ?_
  refine .ce 7 (fun F => Te.wr (wint_tr 6 (by omega) [r.time] (by simp) _ 1 b3 _ (by simp [numsB_len]) i1 κ _ (.app .of))) (fun i2 _ => ?_)
  refine .com fun b15 => ?_
  refine .ce 12 (fun F => Te.wr (wint_tr 2 (by omega) [r.event + 1] (by simp) _ 1 b3 _ (by simp [numsB_len, intsB_len]) i2 κ _ (.app .of))) (fun i3 _ => ?_)
  refine .com fun b27 => ?_
  refine .dn ?_
  refine .ce 24 (Te.wr0 (wnum_tr [r.amount, r.dp, r.dq, r.cp, r.cq] (by simp) _ 5 b3 _ (by simp [numsB_len, intsB_len]) i3 κ _ .of)) (fun i4 _ => ?_)
  have hR : [] ++ numsB [r.tr] ++ intsB 6 [r.time] ++ intsB 2 [r.event + 1] ++ numsB [r.amount, r.dp, r.dq, r.cp, r.cq] = rowB r := by simp [rowB]
  rw [hR]
  refine .go ?_
  refine .seq ?_
  refine .reg ?_
  refine .ce (wbytes_tr b3 (rowB r) (by rw [rowB_len]; omega) i4 κ _) (fun i5 _ => ?_)
  rw [rowB_len]
  refine .as ?_
  refine .go ?_
  refine .r1 fun w hs => ?_
  exact ⟨i5, trivial, rfl, ((hs.dr 1).dr 1).dr 1⟩
end Go.Proofs.YtpcechnalfaajaaDoor

/- rows: an account's rows. -/
namespace Go.Proofs.YtpcechnalfaajaaDoor
open Go Go.Proofs

def leafR (r : Row) : Hash := leafN (rowB r)
theorem rleaf_tr (r : Row) (hr : -1000000000000 ≤ r.event ∧ r.event ≤ 1000000000000) (κ : Kap) (hκ : Laid κ) (cs : List HProp) :
    Tr Tryd.prog 73 [.pointer none, .agg (encR r).toArray] κ cs (.agg (hcells (leafR r)).toArray) cs := by
  refine .enter Tryd.func73 rfl rfl ?_
  refine .seq ?_
  refine .reg ?_
  refine .bx fun b3 => ?_
  refine .al fun b4 => ?_
  refine .go ?_
  refine .seq ?_
  refine .reg ?_
  refine .mv ?_
  refine .ldw ?_
  refine .ce (row_tr r hr κ _) (fun i _ => ?_)
  refine .rds i.1 104 i.2 1 fun hrd _ => ?_
  have t := leaf_tr (rowB r) (by rw [rowB_len]; omega) i.1 i.2 κ hκ _ hrd
  rw [rowB_len] at t
  refine .cl t ?_
  refine .stw (h := ⟨rfl, rfl, inferInstance, inferInstance, ⟨by rw [vc_agg]; exact hcells_len _, rfl⟩, by rw [vc_agg]; exact hcells_one _, rfl⟩) ?_
  refine .go ?_
  refine .r1w (h := ⟨inferInstance, rfl, rfl, inferInstance, inferInstance, rfl, by rw [vc_agg]; exact hcells_len _⟩) fun w hs => ?_
  exact ⟨by rw [vc_agg]; rfl, hs.rows.rows.rows⟩
theorem one_flat {α : Type} (enc : α → List Value) (h : ∀ x, one (enc x) = true) (xs : List α) : one (xs.flatMap enc) = true := by
  have app : ∀ (a b : List Value), one a = true → one b = true → one (a ++ b) = true := by
    intro a b
    induction a with
    | nil => intro _ hb; exact hb
    | cons x t ih => intro ha hb; simp only [one, List.cons_append, Bool.and_eq_true] at ha ⊢; exact ⟨ha.1, ih ha.2 hb⟩
  induction xs with
  | nil => rfl
  | cons x t ih => rw [List.flatMap_cons]; exact app _ _ (h x) ih
theorem oneR (rs : List Row) : one (rs.flatMap encR) = true := one_flat encR encR_one rs
theorem oneH (rs : List Hash) : one (rs.flatMap hcells) = true := one_flat hcells hcells_one rs
abbrev LstI := (Option Addr × Nat) × (Option Addr × Nat)
/-- A List of these rows. -/
abbrev lstC (b : Nat) (rs : List Row) (i : LstI) (cs : List HProp) : List HProp :=
  pts b (106, [.slice i.1.1 rs.length i.1.2, .slice i.2.1 rs.length i.2.2]) :: sl 14 (.slice i.1.1 rs.length i.1.2) (71, rs.flatMap encR) :: sl 32 (.slice i.2.1 rs.length i.2.2) (35, (rs.map leafR).flatMap hcells) :: cs
theorem radd_tr (b : Nat) (rs : List Row) (hl : rs.length < 100000) (r : Row) (hr : -1000000000000 ≤ r.event ∧ r.event ≤ 1000000000000) (i : LstI) (κ : Kap) (hκ : Laid κ) (cs : List HProp) :
    Te Tryd.prog 77 [.pointer (some ⟨b, 0, none⟩), .agg (encR r).toArray] κ (lstC b rs i cs) (fun _ : LstI => True) (fun _ => .tuple #[]) (fun i => lstC b (rs ++ [r]) i cs) := by
  refine .enter Tryd.func77 rfl rfl ?_
  refine .seq ?_
  refine .reg ?_
  refine .bx fun b3 => ?_
  refine .go ?_
  refine .regD [(b, 0, [.slice i.1.1 rs.length i.1.2, .slice i.2.1 rs.length i.2.2]), (b3, 0, vc (.agg (encR r).toArray))] [19, 22] ?_
  refine .mv 0 ?_
  refine .mv 1 ?_
  refine .mv 2 ?_
  refine .nc 3 ?_
  refine .fa 4 ?_
  refine .ld 5 ?_
  refine .ldw 6 ?_
  refine .mv 9 ?_
  refine .nc 10 ?_
  refine .fa 11 ?_
  refine .ld 12 ?_
  refine .ldw 13 ?_
  refine .bs 7 fun b11 => ?_
  refine .ap 8 .of (fun p12 c12 => ?_) rfl rfl
  refine .cl 14 (rleaf_tr r hr κ hκ _) ?_
  refine .bs1 (v := .agg (hcells (leafR r)).toArray) (m := 32) 15 (fun b19 => ?_) (by rw [vc_agg]; exact hcells_len _)
  rw [vc_agg]
  have e2 : ((rs ++ [r]).map leafR).flatMap hcells = (rs.map leafR).flatMap hcells ++ hcells (leafR r) := by simp
  have h32 : (hcells (leafR r)).length = 1 * 32 := hcells_len _
  have h1 : one (hcells (leafR r)) = true := hcells_one _
  generalize hcells (leafR r) = H at *
  refine .ap (src := H) (q := some ⟨b19, 0, none⟩) (k := 1) (m := 32) 16 (.inr ⟨b19, 0, rfl, .ofRd (h := .head)⟩) (fun p20 c20 => ?_) h32 h1
  refine .nc 17 ?_
  refine .fa 18 ?_
  refine .st 19 ?_
  refine .nc 20 ?_
  refine .fa 21 ?_
  refine .st 22 ?_
  refine .e0 fun w hs => ?_
  refine ⟨((p12, c12), (p20, c20)), trivial, rfl, ?_⟩
  have hs := hs.rows.rows.rows
  rw [show rs.length + 1 = (rs ++ [r]).length by simp] at hs
  have e1 : (rs ++ [r]).flatMap encR = rs.flatMap encR ++ encR r := by simp
  show Sat κ w (pts b _ :: sl 14 _ (_, (rs ++ [r]).flatMap encR) :: sl 32 _ (_, ((rs ++ [r]).map leafR).flatMap hcells) :: cs)
  rw [e1, e2]
  exact hs

theorem rlen_tr (b : Nat) (rs : List Row) (i : LstI) (κ : Kap) (cs : List HProp) :
    Tr Tryd.prog 51 [.pointer (some ⟨b, 0, none⟩)] κ (lstC b rs i cs) (.int .i64 rs.length) (lstC b rs i cs) := by
  refine .enter Tryd.func51 rfl rfl ?_
  refine .seq ?_
  refine .reg ?_
  refine .as ?_
  refine .go ?_
  refine .seq ?_
  refine .reg ?_
  refine .mv ?_
  refine .nc ?_
  refine .fa ?_
  refine .ld ?_
  refine .ln ?_
  refine .as ?_
  refine .go ?_
  refine .r1 fun w hs => ?_
  exact ⟨rfl, hs⟩
theorem rat_tr (b : Nat) (rs : List Row) (k : Nat) (hk : k < rs.length) (hl : rs.length < 100000) (i : LstI) (κ : Kap) (cs : List HProp) :
    Tr Tryd.prog 32 [.pointer (some ⟨b, 0, none⟩), .int .i64 k] κ (lstC b rs i cs) (.agg (encR rs[k]).toArray) (lstC b rs i cs) := by
  refine .enter Tryd.func32 rfl rfl ?_
  obtain ⟨⟨p, c⟩, j⟩ := i
  refine .seq ?_
  refine .reg ?_
  refine .al fun b4 => ?_
  refine .go ?_
  refine .seq ?_
  refine .reg ?_
  refine .slp (p := p) (cap := c) (sz := 14) (n0 := rs.length) (by omega) (fun bb hbb hcap => ?_)
  subst hbb
  refine .mv ?_
  refine .nc ?_
  refine .fa ?_
  refine .ld ?_
  refine .mv ?_
  refine .ix ?_
  have hg : getV true (rs.flatMap encR) (((k : Nat) : Int).toNat * 14) 14 = some (.agg (encR rs[k]).toArray) := by
    have := flat_get encR 14 encR_len rs k 0 14 true (.agg (encR rs[k]).toArray) hk (getV_whole rfl)
    simpa using this
  generalize rs[k] = r at *
  refine .lx hg ?_
  refine .stw ?_
  refine .go ?_
  refine .r1w fun w hs => ?_
  exact ⟨by rw [vc_agg], hs.rows⟩
theorem rroot_tr (b : Nat) (rs : List Row) (hl : rs.length < 100000) (i : LstI) (κ : Kap) (hκ : Laid κ) (cs : List HProp) :
    Tr Tryd.prog 62 [.pointer (some ⟨b, 0, none⟩), .pointer none] κ (lstC b rs i cs) (.agg (hcells (rootN (rs.map leafR))).toArray) (lstC b rs i cs) := by
  refine .enter Tryd.func62 rfl rfl ?_
  refine .seq ?_
  refine .reg ?_
  refine .al fun b4 => ?_
  refine .go ?_
  refine .seq ?_
  refine .seq ?_
  refine .reg ?_
  refine .mv ?_
  refine .nc ?_
  refine .fa ?_
  refine .ld ?_
  refine .ln ?_
  refine .mv ?_
  refine .go ?_
  refine .block ?_
  refine .lp (fun k : Nat => [(0, .pointer (some ⟨b, 0, none⟩)), (1, .pointer none), (4, .pointer (some ⟨b4, 0, none⟩)), (10, .slice i.1.1 rs.length i.1.2), (11, .int .i64 rs.length), (12, .int .i64 k)])
    (fun k => pts b4 (35, bv (List.replicate 32 0)) :: lstC b rs i cs) (fun k => k ≤ rs.length) (fun k => rs.length - k) 0 (by omega) (by repeat (first | exact trivial | refine ⟨rfl, ?_⟩)) rfl fun k hk => ?_
  refine .seq ?_
  refine .reg ?_
  refine .lt ?_
  refine .go ?_
  refine .seq ?_
  refine .cond rfl (fun hc => ?_) (fun hc => ?_)   -- t13
  · have hlt : k < rs.length := by have : (k : Int) < rs.length := of_decide_eq_true hc; omega
    refine .go ?_
    obtain ⟨⟨p, c⟩, j⟩ := i
    refine .slp (p := p) (cap := c) (sz := 14) (n0 := rs.length) (by omega) (fun bb hbb hcap => ?_)
    subst hbb
    have hg : getV true (rs.flatMap encR) (((k : Nat) : Int).toNat * 14) 14 = some (.agg (encR rs[k]).toArray) := by
      have := flat_get encR 14 encR_len rs k 0 14 true (.agg (encR rs[k]).toArray) hlt (getV_whole rfl)
      simpa using this
    generalize rs[k] = r at *
    refine .seq ?_
    refine .block ?_
    refine .seq ?_
    refine .reg ?_
    refine .ix ?_
    refine .lx hg ?_
    refine .al fun b6 => ?_
    refine .stw ?_
    refine .go ?_
    refine .seq ?_
    refine .reg ?_
    refine .mv ?_
    refine .pnn ?_
    refine .go ?_
    refine .cond rfl (fun hc => by cases hc) (fun hc => ?_)
    refine .go ?_
    refine .reg ?_
    refine .ad ?_
    refine .mv ?_
    rw [show (k : Int) + 1 = ((k + 1 : Nat) : Int) by omega]
    exact .nil fun aa w hf hs => ⟨k + 1, by omega, by omega, hf.to (by repeat (first | exact trivial | refine ⟨rfl, ?_⟩)), hs.rows⟩
  · refine .xgo ?_
    refine .seq ?_
    refine .reg ?_
    refine .mv ?_
    refine .mv ?_
    refine .nc ?_
    refine .fa ?_
    refine .ld ?_
    refine .rds i.2.1 rs.length i.2.2 32 (hrd := by intro b hb; unfold lstC; rw [hb]; infer_instance) fun hrd hcap => ?_
    have t := root_tr rs.length (rs.map leafR) (by simp) (by simpa using hl) i.2.1 i.2.2 (by simpa using hcap) κ hκ _ hrd
    rw [List.length_map] at t
    refine .cl t ?_
    have h32 : (hcells (rootN (rs.map leafR))).length = 32 := hcells_len _
    have h1 : one (hcells (rootN (rs.map leafR))) = true := hcells_one _
    generalize hcells (rootN (rs.map leafR)) = H at *
    refine .stw (h := ⟨rfl, rfl, inferInstance, inferInstance, ⟨h32, rfl⟩, h1, rfl⟩) ?_
    refine .go ?_
    refine .r1w (h := ⟨inferInstance, rfl, rfl, inferInstance, inferInstance, rfl, h32⟩) fun w hs => ?_
    exact ⟨rfl, hs.rows⟩

theorem rcopy_tr (b : Nat) (rs : List Row) (hl : rs.length < 100000) (i : LstI) (κ : Kap) (cs : List HProp) :
    Te Tryd.prog 57 [.pointer (some ⟨b, 0, none⟩)] κ (lstC b rs i cs) (fun _ : Nat × LstI => True) (fun j => .pointer (some ⟨j.1, 0, none⟩)) (fun j => lstC j.1 rs j.2 (lstC b rs i cs)) := by
  refine .enter Tryd.func57 rfl rfl ?_
  refine .seq ?_
  refine .reg ?_
  refine .as ?_
  refine .go ?_
  refine .seq ?_
  refine .regD [(b, 0, [.slice i.1.1 rs.length i.1.2, .slice i.2.1 rs.length i.2.2])] [] ?_
  refine .rds i.2.1 rs.length i.2.2 32 (hrd := by intro b hb; unfold lstC; rw [hb]; infer_instance) fun hrd2 _ => ?_
  refine .rds i.1.1 rs.length i.1.2 14 (hrd := by intro b hb; unfold lstC; rw [hb]; infer_instance) fun hrd1 _ => ?_
  refine .mv 0 ?_
  refine .nc 1 ?_
  refine .fa 2 ?_
  refine .ld 3 ?_
  refine .mv 5 ?_
  refine .nc 6 ?_
  refine .fa 7 ?_
  refine .ld 8 ?_
  refine .ns 32 35 ?_
  refine .ns 14 71 ?_
  refine .ap 4 hrd1.tail.tail (fun p7 c7 => ?_) (show (rs.flatMap encR).length = rs.length * 14 by rw [flat_len encR 14 encR_len]) (oneR rs)
  refine .ap 9 (.tail (.tail hrd2)) (fun p12 c12 => ?_) (show ((rs.map leafR).flatMap hcells).length = rs.length * 32 by rw [flat_len hcells 32 hcells_len, List.length_map]) (oneH _)
  rw [Nat.zero_add, List.nil_append, List.nil_append]
  refine .bd 10 ?_
  refine .bx 11 fun b14 => ?_
  refine .as 12 ?_
  refine .go ?_
  refine .r1 fun w hs => ?_
  exact ⟨(b14, ((p7, c7), (p12, c12))), trivial, rfl, hs⟩
end Go.Proofs.YtpcechnalfaajaaDoor

/- index: Get, Len. -/
namespace Go.Proofs.YtpcechnalfaajaaDoor
open Go Go.Proofs

/-- An Index of a tree, or of none. -/
abbrev ixC (bx : Nat) (o : Option (Tree × Nat)) (n : Nat) (cs : List HProp) : List HProp :=
  match o with
  | none => pts bx (86, [.pointer none, .int .i64 n]) :: cs
  | some (t, b) => pts bx (86, [.pointer (some ⟨b, 0, none⟩), .int .i64 n]) :: tn t b :: cs
def getX (key : Num) : Option (Tree × Nat) → Option Int
  | none => none
  | some (t, _) => getT key t
theorem xlen_tr (bx : Nat) (o : Option (Tree × Nat)) (n : Nat) (κ : Kap) (cs : List HProp) : Tr Tryd.prog 38 [.pointer (some ⟨bx, 0, none⟩)] κ (ixC bx o n cs) (.int .i64 n) (ixC bx o n cs) := by
  cases o with
  | none =>
    refine .enter Tryd.func38 rfl rfl ?_
    refine .seq ?_
    refine .reg ?_
    refine .as ?_
    refine .go ?_
    refine .seq ?_
    refine .reg ?_
    refine .mv ?_
    refine .nc ?_
    refine .fa ?_
    refine .ld ?_
    refine .as ?_
    refine .go ?_
    refine .r1 fun w hs => ?_
    exact ⟨rfl, hs⟩
  | some tb =>
    refine .enter Tryd.func38 rfl rfl ?_
    refine .seq ?_
    refine .reg ?_
    refine .as ?_
    refine .go ?_
    refine .seq ?_
    refine .reg ?_
    refine .mv ?_
    refine .nc ?_
    refine .fa ?_
    refine .ld ?_
    refine .as ?_
    refine .go ?_
    refine .r1 fun w hs => ?_
    exact ⟨rfl, hs⟩
structure GI where
  t : Tree
  b : Nat
  ctx : List HProp
theorem getsome_tr (bx b0 : Nat) (t0 : Tree) (h0 : Ok t0) (hc0 : cntT t0 < 900) (n : Nat) (key : Num) (κ : Kap) (cs : List HProp) :
    Tr Tryd.prog 47 [.pointer (some ⟨bx, 0, none⟩), .agg (nm key).toArray] κ (ixC bx (some (t0, b0)) n cs) (.tuple #[.int .i64 ((getT key t0).getD 0), .bool (getT key t0).isSome]) (ixC bx (some (t0, b0)) n cs) := by
  refine .enter Tryd.func47 rfl rfl ?_
  refine .seq ?_
  refine .reg ?_
  refine .bx fun b3 => ?_
  refine .as ?_
  refine .as ?_
  refine .go ?_
  refine .seq ?_
  refine .seq ?_
  refine .reg ?_
  refine .mv ?_
  refine .nc ?_
  refine .fa ?_
  refine .ld ?_
  refine .as ?_
  refine .go ?_
  rw [vc_agg]
  refine .sat (cs' := pts b3 (24, nm key) :: tn t0 b0 :: pts bx (86, [.pointer (some ⟨b0, 0, none⟩), .int .i64 n]) :: cs) (fun w hs => hs.imp fun g hg => sepL_tail (fun g hg => sepL_swap hg) hg) ?_
  refine .block ?_
  refine .lp (ι := GI) (fun s => [(3, .pointer (some ⟨b3, 0, none⟩)), (6, .pointer (some ⟨s.b, 0, none⟩))]) (fun s => pts b3 (24, nm key) :: tn s.t s.b :: s.ctx)
    (fun s => (Ok s.t ∧ cntT s.t < 900) ∧ getT key s.t = getT key t0 ∧ ∀ κ g, sepL κ (tn s.t s.b :: s.ctx) g → sepL κ (tn t0 b0 :: pts bx (86, [.pointer (some ⟨b0, 0, none⟩), .int .i64 n]) :: cs) g) (fun s => sizeT s.t)
    ⟨t0, b0, _⟩ ⟨⟨h0, hc0⟩, rfl, fun _ _ h => h⟩ (by repeat (first | exact trivial | refine ⟨rfl, ?_⟩)) rfl fun s hs0 => ?_
  obtain ⟨t, b, ctx⟩ := s
  obtain ⟨⟨hok, hcnt⟩, hget, hfold⟩ := hs0
  cases hok with
  | mk hv ht hsub =>
    rename_i ks vs ts
    have hcnt : ks.length + cntK ts < 900 := by simpa only [cntT] using hcnt
    refine .seq ?_
    refine .seq ?_
    refine .reg ?_
    refine .mv ?_
    refine .pnn ?_
    refine .go ?_
    refine .cond rfl (fun h14 => ?_) (fun h14 => by cases h14)   -- t14
    refine .go ?_
    refine .satx (ι := NodeI) (cs' := fun i => pts b3 (24, nm key) :: hdr b ks vs i (kidsP ts i.bs ++ ctx)) (p := fun i => i.bs.length = ts.length ∧ (ts = [] → i.tp = none)) (fun w hs => by
      obtain ⟨g, sg, dg, h1, h2, s1, s2, d, hc, hr⟩ := hs.ex
      obtain ⟨i, hi, hh⟩ := node_out hr
      exact ⟨i, hi, hs.os, hs.tape, hs.out, hs.ro, g, sg, dg, h1, h2, s1, s2, d, hc, hh⟩) fun i hi => ?_
    have hfold2 : ∀ κ g, sepL κ (hdr b ks vs i (kidsP ts i.bs ++ ctx)) g → sepL κ (tn t0 b0 :: pts bx (86, [.pointer (some ⟨b0, 0, none⟩), .int .i64 n]) :: cs) g := fun κ g h => hfold κ g (node_in i hi h)
    have hple := placeN_le key ks
    refine .rds i.kp ks.length i.kc 2 (hrd := by intro b hb; unfold hdr; rw [hb]; infer_instance) fun hrd _ => ?_
    refine .block ?_
    refine .seq ?_
    refine .reg ?_
    refine .mv ?_
    refine .ldw ?_
    refine .cl (place_tr b ks (by omega) key i.kp i.kc _ _ κ _ hrd) ?_
    refine .mv ?_
    refine .ex ?_
    refine .ex ?_
    refine .as ?_
    refine .as ?_
    refine .go ?_
    refine .seq ?_
    refine .seq ?_
    refine .reg ?_
    refine .mv ?_
    refine .go ?_
    refine .cond rfl (fun hc => ?_) (fun hc => ?_)   -- t21
    · have hlt := hple.2 hc
      have hg1 : getT key (.node ks vs ts) = some (vs.getD (placeN key ks).1 0) := by rw [getT, if_pos hc]
      rw [← hget]
      show Co _ _ _ _ _ _ _
      have hgv : getV false (cells .i64 vs) ((((placeN key ks).1 : Nat) : Int).toNat * 1) 1 = some (.int .i64 (vs.getD (placeN key ks).1 0)) := by
        rw [Nat.mul_one]; exact cells_get _ _ _ (by rw [Int.toNat_natCast]; omega)
      refine .slp (p := i.vp) (cap := i.vcap) (sz := 1) (n0 := vs.length) (by omega) (fun bb hbb _ => ?_)
      refine .seq ?_
      refine .reg ?_
      refine .mv ?_
      refine .nc ?_
      refine .fa ?_
      refine .ld ?_
      refine .mv ?_
      unfold hdr
      rw [hbb]
      refine .ix ?_
      refine .lx hgv ?_
      refine .as ?_
      refine .as ?_
      refine .go ?_
      refine .r2 (h := ⟨inferInstance, rfl, .t, .t⟩) fun w hs => ?_
      rw [← hbb] at hs
      refine ⟨?_, hs.rows.imp fun g hg => sepL_swap (hfold2 κ g hg)⟩
      show _ = Ending.returned (.tuple #[.int .i64 ((getT key (.node ks vs ts)).getD 0), .bool (getT key (.node ks vs ts)).isSome])
      rw [hg1]; rfl
    · refine .go ?_
      refine .seq ?_
      refine .seq ?_
      refine .reg ?_
      refine .mv ?_
      refine .nc ?_
      refine .fa ?_
      refine .ld ?_
      refine .nl ?_
      refine .go ?_
      refine .cond rfl (fun hn => ?_) (fun hn => ?_)   -- t33
      · by_cases hts : ts = []
        case neg =>
          have hpos : 0 < i.bs.length := by rw [hi.1]; exact List.length_pos_iff.2 hts
          exact .slp (p := i.tp) (cap := i.tc) (sz := 1) (n0 := i.bs.length) hpos (fun bb hbb _ => by rw [hbb] at hn; cases hn)
        subst hts
        have hg1 : getT key (.node ks vs []) = none := by rw [getT, if_neg (by rw [hc]; simp)]; rfl
        refine .xgo ?_
        refine .seq ?_
        refine .reg ?_
        refine .as ?_
        refine .as ?_
        refine .go ?_
        refine .r2 (h := ⟨inferInstance, rfl, .t, .t⟩) fun w hs => ?_
        refine ⟨?_, hs.rows.imp fun g hg => sepL_swap (hfold2 κ g hg)⟩
        rw [← hget]
        show _ = Ending.returned (.tuple #[.int .i64 ((getT key (.node ks vs [])).getD 0), .bool (getT key (.node ks vs [])).isSome])
        rw [hg1]; rfl
      · have htl : ts.length = ks.length + 1 := by
          rcases ht with h | h
          · have := hi.2 h; rw [this] at hn; cases hn
          · exact h
        have hj : (placeN key ks).1 < ts.length := by omega
        have hg1 : getT key (.node ks vs ts) = getT key ts[(placeN key ks).1] := by rw [getT, if_neg (by rw [hc]; simp), getK_at key ts _ hj]
        generalize (placeN key ks).1 = j at *
        have hjb : j < i.bs.length := by omega
        have hgv : getV false (i.bs.map ptrV) (((j : Nat) : Int).toNat * 1) 1 = some (ptrV i.bs[j]) := by
          rw [Nat.mul_one]; simp [getV, get1_eq, hjb]
        refine .go ?_
        refine .slp (p := i.tp) (cap := i.tc) (sz := 1) (n0 := i.bs.length) (by omega) (fun bb hbb _ => ?_)
        refine .reg ?_
        refine .mv ?_
        refine .nc ?_
        refine .fa ?_
        refine .ld ?_
        refine .mv ?_
        unfold hdr
        rw [hbb]
        refine .ix ?_
        refine .lx hgv ?_
        refine .as ?_
        refine .nil fun aa w hf hs => ?_
        rw [← hbb] at hs
        have hsplit := kids_split ts i.bs j hj hjb
        have hlist : kidsP ts i.bs ++ ctx = kidsP (ts.take j) (i.bs.take j) ++ tn ts[j] i.bs[j] :: (kidsP (ts.drop (j + 1)) (i.bs.drop (j + 1)) ++ ctx) := by rw [hsplit]; simp
        have hsz := sizeK_at ts j hj
        refine ⟨⟨ts[j], i.bs[j], hdr b ks vs i (kidsP (ts.take j) (i.bs.take j) ++ (kidsP (ts.drop (j + 1)) (i.bs.drop (j + 1)) ++ ctx))⟩, ⟨⟨hsub _ (List.getElem_mem hj), by have := cntK_at ts j hj; show cntT ts[j] < 900; omega⟩, ?_, fun κ g h => hfold2 κ g (by rw [hlist]; exact hdr_in h)⟩, ?_, hf.to (by repeat (first | exact trivial | refine ⟨rfl, ?_⟩)), ?_⟩
        · show getT key ts[j] = _
          rw [← hg1]; exact hget
        · show sizeT ts[j] < sizeT (.node ks vs ts)
          simp only [sizeT]; omega
        · rw [hlist] at hs
          exact hs.imp fun g hg => sepL_tail (fun g hg => hdr_out hg) hg

theorem getnone_tr (bx : Nat) (n : Nat) (key : Num) (κ : Kap) (cs : List HProp) :
    Tr Tryd.prog 47 [.pointer (some ⟨bx, 0, none⟩), .agg (nm key).toArray] κ (ixC bx none n cs) (.tuple #[.int .i64 0, .bool false]) (ixC bx none n cs) := by
  refine .enter Tryd.func47 rfl rfl ?_
  refine .seq ?_
  refine .reg ?_
  refine .bx fun b3 => ?_
  refine .as ?_
  refine .as ?_
  refine .go ?_
  refine .seq ?_
  refine .seq ?_
  refine .reg ?_
  refine .mv ?_
  refine .nc ?_
  refine .fa ?_
  refine .ld ?_
  refine .as ?_
  refine .go ?_
  refine .block ?_
  refine .lp (ι := Unit) (fun _ => [(6, .pointer none)]) (fun _ => pts b3 (24, vc (.agg (nm key).toArray)) :: ixC bx none n cs) (fun _ => True) (fun _ => 0) () trivial (by repeat (first | exact trivial | refine ⟨rfl, ?_⟩)) rfl fun _ _ => ?_
  refine .seq ?_
  refine .seq ?_
  refine .reg ?_
  refine .mv ?_
  refine .pnn ?_
  refine .go ?_
  refine .cond rfl (fun h14 => by cases h14) (fun h14 => ?_)   -- t14
  refine .xgo ?_
  refine .seq ?_
  refine .reg ?_
  refine .as ?_
  refine .as ?_
  refine .go ?_
  refine .r2 (h := ⟨inferInstance, rfl, .t, .t⟩) fun w hs => ?_
  exact ⟨rfl, hs.rows⟩
def okX : Option (Tree × Nat) → Prop
  | none => True
  | some (t, _) => Ok t ∧ cntT t < 900
theorem get_tr (bx : Nat) (o : Option (Tree × Nat)) (ho : okX o) (n : Nat) (key : Num) (κ : Kap) (cs : List HProp) :
    Tr Tryd.prog 47 [.pointer (some ⟨bx, 0, none⟩), .agg (nm key).toArray] κ (ixC bx o n cs) (.tuple #[.int .i64 ((getX key o).getD 0), .bool (getX key o).isSome]) (ixC bx o n cs) := by
  cases o with
  | none => exact getnone_tr bx n key κ cs
  | some tb => exact getsome_tr bx tb.2 tb.1 ho.1 ho.2 n key κ cs
end Go.Proofs.YtpcechnalfaajaaDoor

/- index: part (under way). -/
namespace Go.Proofs.YtpcechnalfaajaaDoor
open Go Go.Proofs

theorem part_tr (ks : List Num) (vs : List Int) (ts : List Tree) (j : Nat) (hj : j < ts.length) (lk : List Num) (lv : List Int) (lt : List Tree) (ht : ts[j] = .node lk lv lt) (h1 : 0 < lk.length ∧ lk.length < 900) (h2 : lv.length = lk.length) (h3 : lt = [] ∨ lt.length = lk.length + 1)
    (h4 : vs.length = ks.length ∧ ts.length = ks.length + 1) (hk : ks.length < 900) (b : Nat) (κ : Kap) (cs : List HProp) :
    Tr Tryd.prog 72 [.pointer (some ⟨b, 0, none⟩), .int .i64 j] κ (tn (.node ks vs ts) b :: cs) (.tuple #[]) (tn (partT (.node ks vs ts) j) b :: cs) := by
  refine .enter Tryd.func72 rfl rfl ?_
  refine .satx (ι := NodeI × NodeI × Nat) (fun w hs => by
      obtain ⟨g, sg, dg, hr⟩ := hs.ex
      obtain ⟨x, hx, hh⟩ := two_out hj ht hr
      exact ⟨x, hx, hs.os, hs.tape, hs.out, hs.ro, g, sg, dg, hh⟩) fun x hx => ?_
  obtain ⟨hi, hil, hbj⟩ := hx
  have hgv : getV false (x.1.bs.map ptrV) (((j : Nat) : Int).toNat * 1) 1 = some (ptrV x.2.2) := by
    rw [Nat.mul_one]; simp [getV, get1_eq, hbj]
  refine .slp (p := x.1.tp) (cap := x.1.tc) (sz := 1) (n0 := x.1.bs.length) (by omega) (fun bb hbb _ => ?_)
  refine .seq ?_
  refine .reg ?_
  refine .mv ?_
  refine .nc ?_
  refine .fa ?_
  refine .ld ?_
  refine .mv ?_
  unfold hdr
  rw [hbb]
  refine .ix ?_
  refine .lx hgv ?_
  rw [← hbb]
  refine .as ?_
  refine .go ?_
  refine .seq ?_
  refine .reg ?_
  refine .mv ?_
  refine .nc ?_
  refine .fa ?_
  refine .ld ?_
  refine .ln ?_
  refine .quo ?_
  rw [show IntKind.i64.wrap ((lk.length : Int).tdiv 2) = ((lk.length / 2 : Nat) : Int) by
    rw [show (lk.length : Int).tdiv 2 = ((lk.length / 2 : Nat) : Int) from rfl]; exact wrap_in (by omega)]
  refine .as ?_
  refine .go ?_
  refine .seq ?_
  generalize hm : lk.length / 2 = m at *
  have hml : m < lk.length := by omega
  have hgk : getV true (lk.flatMap nm) (((m : Nat) : Int).toNat * 2) 2 = some (.agg (nm (lk.getD m 0)).toArray) := by
    have := flat_get nm 2 nm_len lk m 0 2 true (.agg (nm lk[m]).toArray) hml rfl
    simpa [List.getD, hml] using this
  have hgl : getV false (cells .i64 lv) (((m : Nat) : Int).toNat * 1) 1 = some (.int .i64 (lv.getD m 0)) := by
    rw [Nat.mul_one]; exact cells_get _ _ _ (by rw [Int.toNat_natCast]; omega)
  refine .slp (p := x.2.1.kp) (cap := x.2.1.kc) (sz := 2) (n0 := lk.length) (by omega) (fun bk hbk hkc => ?_)
  refine .slp (p := x.2.1.vp) (cap := x.2.1.vcap) (sz := 1) (n0 := lv.length) (by omega) (fun bv hbv hvc => ?_)
  rw [hbk, hbv]
  refine .regD [(x.2.2, 0, [.slice (some ⟨bk, 0, none⟩) lk.length x.2.1.kc, .slice (some ⟨bv, 0, none⟩) lv.length x.2.1.vcap, .slice x.2.1.tp x.2.1.bs.length x.2.1.tc]), (bk, 0, lk.flatMap nm), (bv, 0, cells .i64 lv)] [] ?_
  refine .mv 0 ?_
  refine .nc 1 ?_
  refine .fa 2 ?_
  refine .ld 3 ?_
  refine .mv 4 ?_
  refine .ix 5 ?_
  refine .lx 6 hgk ?_
  refine .mv 7 ?_
  refine .nc 8 ?_
  refine .fa 9 ?_
  refine .ld 10 ?_
  refine .mv 11 ?_
  refine .ix 12 ?_
  refine .lx 13 hgl ?_
  generalize hmk : lk.getD m 0 = mk at *
  generalize hmv : lv.getD m 0 = mv at *
  refine .al 14 fun b6 => ?_
  refine .st 15 ?_
  refine .as 16 ?_
  refine .go ?_
  refine .seq ?_
  refine .regD [(x.2.2, 0, [.slice (some ⟨bk, 0, none⟩) lk.length x.2.1.kc, .slice (some ⟨bv, 0, none⟩) lv.length x.2.1.vcap, .slice x.2.1.tp x.2.1.bs.length x.2.1.tc])] [] ?_
  refine .mv 0 ?_
  refine .nc 1 ?_
  refine .fa 2 ?_
  refine .ld 3 ?_
  refine .mv 4 ?_
  refine .ad 5 ?_
  refine .slc (m + 1) lk.length 6 ?_
  refine .mv 8 ?_
  refine .nc 9 ?_
  refine .fa 10 ?_
  refine .ld 11 ?_
  refine .mv 12 ?_
  refine .ad 13 ?_
  refine .slc (m + 1) lv.length 14 ?_
  refine .ns 1 3 ?_
  refine .ns 2 24 ?_
  refine .ap 7 (RdS.suf (l := lk.flatMap nm) (n0 := lk.length) (m := 2) .of (flat_len nm 2 nm_len lk) hkc (by omega)) (fun p43 c43 => ?_) (show ((lk.flatMap nm).drop ((m + 1) * 2)).length = (lk.length - (m + 1)) * 2 by rw [List.length_drop, flat_len nm 2 nm_len]; omega)
    (by rw [← flat_drop nm 2 nm_len]; exact one_flat nm nm_one _)
  refine .ap 15 (RdS.suf (l := cells .i64 lv) (n0 := lv.length) (m := 1) .of (by simp) hvc (by omega)) (fun p51 c51 => ?_) (show ((cells .i64 lv).drop ((m + 1) * 1)).length = (lv.length - (m + 1)) * 1 by simp)
    (by rw [show (cells .i64 lv).drop ((m + 1) * 1) = cells .i64 (lv.drop (m + 1)) by simp [cells, List.map_drop]]; exact cells_one _ _)
  rw [← flat_drop nm 2 nm_len, show (cells .i64 lv).drop ((m + 1) * 1) = cells .i64 (lv.drop (m + 1)) by simp [cells, List.map_drop], List.nil_append, List.nil_append, Nat.zero_add, Nat.zero_add]
  refine .bd 16 ?_
  refine .bx 17 fun b53 => ?_
  refine .as 18 ?_
  refine .go ?_
  obtain ⟨i, il, bl⟩ := x
  simp only at *
  have hkids : lt = [] ∧ il.tp = none ∨ lt.length = lk.length + 1 := by
    rcases h3 with h | h
    · exact .inl ⟨h, hil.2 h⟩
    · exact .inr h
  refine .jn (ι := Nat × (Option Addr × Nat)) (fun q => [(0, .pointer (some ⟨b, 0, none⟩)), (1, .int .i64 j), (4, .pointer (some ⟨bl, 0, none⟩)), (5, .int .i64 m), (6, .pointer (some ⟨b6, 0, none⟩)), (7, .int .i64 mv), (8, .pointer (some ⟨b53, 0, none⟩))])
    (fun q => pts b53 (130, [.slice p43 (lk.length - (m + 1)) c43, .slice p51 (lv.length - (m + 1)) c51, .slice q.2.1 (il.bs.drop (m + 1)).length q.2.2]) :: sl 1 (.slice q.2.1 (il.bs.drop (m + 1)).length q.2.2) (84, (il.bs.drop (m + 1)).map ptrV) ::
      sl 2 (.slice p43 (lk.length - (m + 1)) c43) (24, (lk.drop (m + 1)).flatMap nm) :: sl 1 (.slice p51 (lv.length - (m + 1)) c51) (3, cells .i64 (lv.drop (m + 1))) :: pts b6 (24, nm mk) ::
      pts bl (130, [.slice (some ⟨bk, 0, none⟩) lk.length il.kc, .slice (some ⟨bv, 0, none⟩) lv.length il.vcap, .slice il.tp (il.bs.take (m + 1)).length q.1]) :: sl 2 (.slice (some ⟨bk, 0, none⟩) lk.length il.kc) (24, lk.flatMap nm) ::
      sl 1 (.slice (some ⟨bv, 0, none⟩) lv.length il.vcap) (3, cells .i64 lv) :: sl 1 (.slice il.tp (il.bs.take (m + 1)).length q.1) (84, (il.bs.take (m + 1)).map ptrV) ::
      hdr b ks vs i (kidsP lt il.bs ++ (kidsP (ts.take j) (i.bs.take j) ++ (kidsP (ts.drop (j + 1)) (i.bs.drop (j + 1)) ++ cs))))
    (fun q => lt = [] → q.2.1 = none) ?_ fun q hq => ?_
  · refine .seq ?_
    refine .reg ?_
    refine .mv ?_
    refine .nc ?_
    refine .fa ?_
    refine .ld ?_
    refine .nnl ?_
    refine .go ?_
    refine .cond rfl (fun hn => ?_) (fun hn => ?_)   -- t58
    · rcases hkids with hk0 | hk1
      · rw [hk0.2] at hn; cases hn
      have hbl : il.bs.length = lk.length + 1 := by rw [hil.1, hk1]
      refine .slp (p := il.tp) (cap := il.tc) (sz := 1) (n0 := il.bs.length) (by omega) (fun bt hbt htc => ?_)
      refine .rds il.tp il.bs.length il.tc 1 (hrd := by intro b hb; rw [hb]; infer_instance) fun hrt _ => ?_
      refine .seq ?_
      refine .reg ?_
      refine .mv ?_
      refine .mv ?_
      refine .nc ?_
      refine .fa ?_
      refine .ld ?_
      refine .mv ?_
      refine .ad ?_
      refine .slc (m + 1) il.bs.length ?_
      refine .ns 1 84 ?_
      refine .ap (m := 1) (k := il.bs.length - (m + 1)) (src := (il.bs.map ptrV).drop ((m + 1) * 1)) (.tail (RdS.suf (m := 1) (j := m + 1) (n0 := il.bs.length) hrt (by simp) htc (by omega))) (fun p67 c67 => ?_) (by simp) (by rw [← List.map_drop]; exact ptr_one _)
      refine .nc ?_
      refine .fa ?_
      refine .st ?_
      refine .go ?_
      refine .reg ?_
      refine .mv ?_
      refine .mv ?_
      refine .nc ?_
      refine .fa ?_
      refine .ld ?_
      refine .mv ?_
      refine .ad ?_
      refine .mv ?_
      refine .ad ?_
      refine .slc3 ?_
      refine .nc ?_
      refine .fa ?_
      refine .st ?_
      refine .cutS il.tp il.bs.length il.tc 1 (m + 1) (m + 1) (by omega) ⟨Nat.le_refl _, by omega⟩ ?_
      have e1 : (il.bs.take (m + 1)).length = m + 1 := by rw [List.length_take]; omega
      have e2 : (il.bs.drop (m + 1)).length = 0 + (il.bs.length - (m + 1)) := by rw [List.length_drop]; omega
      refine .nil fun aa w hf hs => ⟨(m + 1, (p67, c67)), (fun h => by rw [h] at hk1; simp at hk1), hf.to (by repeat (first | exact trivial | refine ⟨rfl, ?_⟩)), ?_⟩
      have hs := hs.pm 9 [1, 0, 2, 3, 4, 5, 6, 7, 8]
      rw [List.nil_append, Nat.mul_one, ← List.map_drop, ← List.map_take, ← e2] at hs
      dsimp only
      rw [e1]
      exact hs
    · rcases hkids with ⟨hlt, _⟩ | hk1
      case inr =>
        have hbl : il.bs.length = lk.length + 1 := by rw [hil.1, hk1]
        exact .slp (p := il.tp) (cap := il.tc) (sz := 1) (n0 := il.bs.length) (by omega) (fun bt hbt htc => by rw [hbt] at hn; cases hn)
      have hbs : il.bs = [] := List.eq_nil_of_length_eq_zero (by rw [hil.1, hlt]; rfl)
      refine .ns 1 84 ?_
      refine .skip fun aa w hf hs => ⟨(il.tc, (none, 0)), fun _ => rfl, hf.to (by repeat (first | exact trivial | refine ⟨rfl, ?_⟩)), ?_⟩
      have hs := hs.pm 9 [1, 0, 2, 3, 4, 5, 6, 7, 8]
      rw [hbs] at hs ⊢
      exact hs
  · obtain ⟨tcl, tpr, tcr⟩ := q
    simp only at hq ⊢
    have w2 : WOk [] [] := .nil
    refine .seq ?_
    refine .regD [(bl, 0, [.slice (some ⟨bk, 0, none⟩) lk.length il.kc, .slice (some ⟨bv, 0, none⟩) lv.length il.vcap, .slice il.tp (il.bs.take (m + 1)).length tcl])] [18, 21] ?_
    refine .mv 0 ?_
    refine .mv 1 ?_
    refine .mv 2 ?_
    refine .nc 3 ?_
    refine .fa 4 ?_
    refine .ld 5 ?_
    refine .mv 6 ?_
    refine .mv 7 ?_
    refine .slc3 8 ?_
    refine .mv 9 ?_
    refine .nc 10 ?_
    refine .fa 11 ?_
    refine .ld 12 ?_
    refine .mv 13 ?_
    refine .mv 14 ?_
    refine .slc3 15 ?_
    refine .nc 16 ?_
    refine .fa 17 ?_
    refine .st 18 ?_
    refine .nc 19 ?_
    refine .fa 20 ?_
    refine .st 21 ?_
    refine .cut (some ⟨bk, 0, none⟩) lk.length il.kc 2 m m (by omega) ⟨Nat.le_refl _, by omega⟩ ?_
    refine .cut (some ⟨bv, 0, none⟩) lv.length il.vcap 1 m m (by omega) ⟨Nat.le_refl _, by omega⟩ ?_
    refine .go ?_
    refine .pm 9 [5, 6, 7, 8, 0, 2, 3, 1, 4] ?_
    refine .sat (fun w hs => hs.imp fun g hg => halves_in (F := [_, _, _, _]) (lk := lk) (lv := lv) (lt := lt) (il := il) hml h2 hil h3 hq hg) ?_
    simp only [List.cons_append, List.nil_append]
    generalize hL : Tree.node (lk.take m) (lv.take m) (lt.take (m + 1)) = tl at *
    generalize hR : Tree.node (lk.drop (m + 1)) (lv.drop (m + 1)) (lt.drop (m + 1)) = tr at *
    have hjk : j ≤ ks.length := by omega
    have hjv : j ≤ vs.length := by omega
    refine .slh i.kp ks.length i.kc 2 fun hkp => ?_
    refine .slh i.vp vs.length i.vcap 1 fun hvp => ?_
    refine .slh i.tp i.bs.length i.tc 1 fun htp => ?_
    refine .rds i.kp ks.length i.kc 2 fun hrd hkc2 => ?_
    refine .seq ?_
    refine .regD [(b, 0, [.slice i.kp ks.length i.kc, .slice i.vp vs.length i.vcap, .slice i.tp i.bs.length i.tc]), (b6, 0, nm mk)] [19] ?_
    refine .mv 0 ?_
    refine .mv 1 ?_
    refine .nc 2 ?_
    refine .fa 3 ?_
    refine .ld 4 ?_
    refine .mv 5 ?_
    refine .slc 0 j 6 ?_
    rw [cut0 hkp, Nat.sub_zero, Nat.sub_zero]
    refine .ldw 7 ?_
    refine .mv 9 ?_
    refine .nc 10 ?_
    refine .fa 11 ?_
    refine .ld 12 ?_
    refine .mv 13 ?_
    refine .slc j ks.length 14 ?_
    refine .bs1 (v := .agg (nm mk).toArray) (m := 2) 8 (fun b110 => ?_) rfl
    rw [vc_agg]
    have hsuf := (hrd.suf (m := 2) (j := j) (by rw [flat_len nm 2 nm_len]) hkc2 hjk)
    rw [← flat_drop nm 2 nm_len] at hsuf
    refine .own b110 1 2 rfl ?_
    refine .ap 15 hsuf.tail (fun p117 c117 => ?_) (show ((ks.drop j).flatMap nm).length = (ks.length - j) * 2 by rw [flat_len nm 2 nm_len, List.length_drop]) (one_flat nm nm_one _)
    refine .cut i.kp ks.length i.kc 2 j i.kc hjk ⟨by omega, Nat.le_refl _⟩ ?_
    rw [← flat_take nm 2 nm_len]
    refine .rds p117 (1 + (ks.length - j)) c117 2 fun h44 _ => ?_
    refine .ap 16 h44 (fun p118 c118 => ?_) (show (nm mk ++ (ks.drop j).flatMap nm).length = (1 + (ks.length - j)) * 2 by rw [List.length_append, flat_len nm 2 nm_len, List.length_drop, nm_len]; omega) (one_flat nm nm_one (mk :: ks.drop j))
    refine .nc 17 ?_
    refine .fa 18 ?_
    refine .st 19 ?_
    refine .go ?_
    refine .pm 6 [1, 2, 3, 4, 5] ?_
    refine .rds i.vp vs.length i.vcap 1 fun hrv hvc2 => ?_
    refine .seq ?_
    refine .regD [(b, 0, [.slice p118 (j + (1 + (ks.length - j))) c118, .slice i.vp vs.length i.vcap, .slice i.tp i.bs.length i.tc])] [19] ?_
    refine .mv 0 ?_
    refine .mv 1 ?_
    refine .nc 2 ?_
    refine .fa 3 ?_
    refine .ld 4 ?_
    refine .mv 5 ?_
    refine .slc 0 j 6 ?_
    rw [cut0 hvp, Nat.sub_zero, Nat.sub_zero]
    refine .mv 7 ?_
    refine .mv 9 ?_
    refine .nc 10 ?_
    refine .fa 11 ?_
    refine .ld 12 ?_
    refine .mv 13 ?_
    refine .slc j vs.length 14 ?_
    refine .bs1 (v := .int .i64 mv) (m := 1) 8 (fun b129 => ?_) rfl
    have hsv := (hrv.suf (m := 1) (j := j) (by rw [cells_len, Nat.mul_one]) hvc2 hjv)
    refine .own b129 1 1 rfl ?_
    have ed : (cells .i64 vs).drop j = cells .i64 (vs.drop j) := by simp [cells, List.map_drop]
    have et : (cells .i64 vs).take j = cells .i64 (vs.take j) := by simp [cells, List.map_take]
    rw [show (cells .i64 vs).drop (j * 1) = cells .i64 (vs.drop j) by rw [Nat.mul_one, ed]] at hsv
    refine .ap 15 hsv.tail (fun p136 c136 => ?_) (show (cells .i64 (vs.drop j)).length = (vs.length - j) * 1 by simp) (cells_one _ _)
    refine .cut i.vp vs.length i.vcap 1 j i.vcap hjv ⟨by omega, Nat.le_refl _⟩ ?_
    rw [show (cells .i64 vs).take (j * 1) = cells .i64 (vs.take j) by rw [Nat.mul_one, et]]
    refine .rds p136 (1 + (vs.length - j)) c136 1 fun h63 _ => ?_
    refine .ap 16 h63 (fun p137 c137 => ?_) (show (vc (.int .i64 mv) ++ cells .i64 (vs.drop j)).length = (1 + (vs.length - j)) * 1 by simp [vc]; omega) (cells_one .i64 (mv :: vs.drop j))
    refine .nc 17 ?_
    refine .fa 18 ?_
    refine .st 19 ?_
    refine .go ?_
    have hjb : j + 1 ≤ i.bs.length := by omega
    refine .pm 8 [1, 2, 4, 5, 6, 7] ?_
    refine .rds i.tp i.bs.length i.tc 1 fun hrt htc2 => ?_
    refine .regD [(b, 0, [.slice p118 (j + (1 + (ks.length - j))) c118, .slice p137 (j + (1 + (vs.length - j))) c137, .slice i.tp i.bs.length i.tc])] [21] ?_
    refine .mv 0 ?_
    refine .mv 1 ?_
    refine .nc 2 ?_
    refine .fa 3 ?_
    refine .ld 4 ?_
    refine .mv 5 ?_
    refine .ad 6 ?_
    refine .slc 0 (j + 1) 7 ?_
    rw [cut0 htp, Nat.sub_zero, Nat.sub_zero]
    refine .mv 8 ?_
    refine .mv 10 ?_
    refine .nc 11 ?_
    refine .fa 12 ?_
    refine .ld 13 ?_
    refine .mv 14 ?_
    refine .ad 15 ?_
    refine .slc (j + 1) i.bs.length 16 ?_
    refine .bs1 (v := ptrV b53) (m := 1) 9 (fun b149 => ?_) rfl
    have hst := (hrt.suf (m := 1) (j := j + 1) (by simp) htc2 hjb)
    refine .own b149 1 1 rfl ?_
    rw [show (i.bs.map ptrV).drop ((j + 1) * 1) = (i.bs.drop (j + 1)).map ptrV by rw [Nat.mul_one, List.map_drop]] at hst
    refine .ap 17 hst.tail (fun p157 c157 => ?_) (show ((i.bs.drop (j + 1)).map ptrV).length = (i.bs.length - (j + 1)) * 1 by simp) (ptr_one _)
    refine .cut i.tp i.bs.length i.tc 1 (j + 1) i.tc hjb ⟨by omega, Nat.le_refl _⟩ ?_
    rw [show (i.bs.map ptrV).take ((j + 1) * 1) = (i.bs.take (j + 1)).map ptrV by rw [Nat.mul_one, List.map_take]]
    refine .rds p157 (1 + (i.bs.length - (j + 1))) c157 1 fun h73 _ => ?_
    refine .ap 18 h73 (fun p158 c158 => ?_) (show (vc (ptrV b53) ++ (i.bs.drop (j + 1)).map ptrV).length = (1 + (i.bs.length - (j + 1))) * 1 by simp [vc, ptrV]; omega) (ptr_one (b53 :: i.bs.drop (j + 1)))
    refine .nc 19 ?_
    refine .fa 20 ?_
    refine .st 21 ?_
    refine .e0 fun w hs => ?_
    refine ⟨rfl, ?_⟩
    have hs := hs.pm 7 [1, 2, 3, 4, 5, 6]
    have hpt : partT (.node ks vs ts) j = .node (insAt ks j mk) (insAt vs j mv) (ts.take j ++ tl :: tr :: ts.drop (j + 1)) := by
      have h0 : ts[j]? = some (.node lk lv lt) := by rw [List.getElem?_eq_getElem hj, ht]
      simp only [partT, h0, hm, hmk, hmv, hL, hR]
    rw [hpt]
    refine hs.imp fun g hg => three_in (i := ⟨p118, c118, p137, c137, p158, c158, i.bs.take j ++ bl :: b53 :: i.bs.drop (j + 1)⟩) (bs := i.bs) hj hi.1 rfl ?_
    have l1 : (insAt ks j mk).length = j + (1 + (ks.length - j)) := by simp [insAt]; omega
    have l2 : (insAt vs j mv).length = j + (1 + (vs.length - j)) := by simp [insAt]; omega
    have e1 : (insAt ks j mk).flatMap nm = (ks.take j).flatMap nm ++ (nm mk ++ (ks.drop j).flatMap nm) := by simp [insAt]
    have e2 : cells .i64 (insAt vs j mv) = cells .i64 (vs.take j) ++ (vc (.int .i64 mv) ++ cells .i64 (vs.drop j)) := by simp [insAt, cells, vc]
    have hlt : j < i.bs.length := by omega
    have hbl : i.bs[j] = bl := by rw [List.getElem?_eq_getElem hlt] at hbj; exact Option.some.inj hbj
    have l3 : (i.bs.take j ++ bl :: b53 :: i.bs.drop (j + 1)).length = j + 1 + (1 + (i.bs.length - (j + 1))) := by simp; omega
    have e3 : (i.bs.take j ++ bl :: b53 :: i.bs.drop (j + 1)).map ptrV = (i.bs.take (j + 1)).map ptrV ++ (vc (ptrV b53) ++ (i.bs.drop (j + 1)).map ptrV) := by
      rw [List.take_succ_eq_append_getElem hlt, hbl]; simp [vc, ptrV]
    unfold hdr
    simp only
    rw [l1, l2, l3, e1, e2, e3]
    exact hg
end Go.Proofs.YtpcechnalfaajaaDoor

/- Trees of an index, in plain Lean: what look-up and put do to what they hold. -/
namespace Go.Proofs.YtpcechnalfaajaaDoor
open Go Go.Proofs

abbrev KV := Num × Int
def getL (key : Num) : List KV → Option Int
  | [] => none
  | (k, v) :: t => if k = key then some v else getL key t
def putL (key : Num) (v : Int) : List KV → List KV
  | [] => [(key, v)]
  | (k', v') :: t => if k' = key then (key, v) :: t else if key.toNat < k'.toNat then (key, v) :: (k', v') :: t else (k', v') :: putL key v t
def Srt (l : List KV) : Prop := l.Pairwise fun a b => a.1.toNat < b.1.toNat
theorem getL_app (key : Num) (A B : List KV) (h : ∀ p ∈ A, p.1 ≠ key) : getL key (A ++ B) = getL key B := by
  induction A with
  | nil => rfl
  | cons p t ih =>
    obtain ⟨k, v⟩ := p
    have h0 : k ≠ key := h (k, v) (List.mem_cons_self ..)
    show (if k = key then some v else getL key (t ++ B)) = _
    rw [if_neg h0, ih fun p hp => h p (List.mem_cons_of_mem _ hp)]
theorem getL_no (key : Num) (A : List KV) (h : ∀ p ∈ A, p.1 ≠ key) : getL key A = none := by
  have := getL_app key A [] h; rw [List.append_nil] at this; rw [this]; rfl
theorem getL_app_r (key : Num) (A B : List KV) (h : ∀ p ∈ B, p.1 ≠ key) : getL key (A ++ B) = getL key A := by
  induction A with
  | nil => exact getL_no key B h
  | cons p t ih =>
    obtain ⟨k, v⟩ := p
    show (if k = key then some v else getL key (t ++ B)) = (if k = key then some v else getL key t)
    rw [ih]
theorem putL_lt (key : Num) (v : Int) (A B : List KV) (h : ∀ p ∈ A, p.1.toNat < key.toNat) : putL key v (A ++ B) = A ++ putL key v B := by
  induction A with
  | nil => rfl
  | cons p t ih =>
    obtain ⟨k, w⟩ := p
    have h0 : k.toNat < key.toNat := h (k, w) (List.mem_cons_self ..)
    have hne : k ≠ key := fun e => by rw [e] at h0; omega
    show (if k = key then (key, v) :: (t ++ B) else if key.toNat < k.toNat then (key, v) :: (k, w) :: (t ++ B) else (k, w) :: putL key v (t ++ B)) = _
    rw [if_neg hne, if_neg (by omega), ih fun p hp => h p (List.mem_cons_of_mem _ hp)]; rfl
theorem putL_gt (key : Num) (v : Int) (X B : List KV) (h : ∀ p ∈ B, key.toNat < p.1.toNat) : putL key v (X ++ B) = putL key v X ++ B := by
  induction X with
  | nil =>
    cases B with
    | nil => rfl
    | cons p t =>
      obtain ⟨k, w⟩ := p
      have h0 : key.toNat < k.toNat := h (k, w) (List.mem_cons_self ..)
      have hne : k ≠ key := fun e => by rw [e] at h0; omega
      show (if k = key then (key, v) :: t else if key.toNat < k.toNat then (key, v) :: (k, w) :: t else (k, w) :: putL key v t) = _
      rw [if_neg hne, if_pos h0]; rfl
  | cons p t ih =>
    obtain ⟨k, w⟩ := p
    show (if k = key then (key, v) :: (t ++ B) else if key.toNat < k.toNat then (key, v) :: (k, w) :: (t ++ B) else (k, w) :: putL key v (t ++ B)) =
      (if k = key then (key, v) :: t else if key.toNat < k.toNat then (key, v) :: (k, w) :: t else (k, w) :: putL key v t) ++ B
    split
    · rfl
    · split
      · rfl
      · rw [ih]; rfl
theorem placeN_spec (key : Num) (ks : List Num) : (∀ i (h : i < ks.length), i < (placeN key ks).1 → ks[i].toNat < key.toNat) ∧
    (∀ h : (placeN key ks).1 < ks.length, key.toNat ≤ ks[(placeN key ks).1].toNat ∧ (placeN key ks).2 = decide (ks[(placeN key ks).1] = key)) ∧ ((placeN key ks).1 = ks.length → (placeN key ks).2 = false) := by
  induction ks with
  | nil => exact ⟨fun i h => by simp at h, fun h => by simp at h, fun _ => rfl⟩
  | cons k t ih =>
    simp only [placeN]
    by_cases h0 : key.toNat ≤ k.toNat
    · simp only [if_pos h0]
      exact ⟨fun i _ h => by omega, fun _ => ⟨h0, rfl⟩, fun h => by simp at h⟩
    · simp only [if_neg h0]
      refine ⟨fun i h hi => ?_, fun h => ?_, fun h => ih.2.2 (by simpa using h)⟩
      · cases i with
        | zero => simp only [List.getElem_cons_zero]; omega
        | succ i => simp only [List.getElem_cons_succ]; exact ih.1 i (by simpa using h) (by omega)
      · have := ih.2.1 (by simpa using h)
        simp only [List.getElem_cons_succ]; exact this
def wl : List Num → List Int → List (List KV) → List KV
  | k :: ks, v :: vs, x :: xs => x ++ (k, v) :: wl ks vs xs
  | _, _, _ => []
theorem wr_split : ∀ (ks : List Num) (vs : List Int) (xs : List (List KV)) (x : List KV), vs.length = ks.length → xs.length = ks.length → ∀ (j : Nat) (h : j < (x :: xs).length),
    x ++ wr ks vs xs = wl (ks.take j) (vs.take j) ((x :: xs).take j) ++ ((x :: xs)[j] ++ wr (ks.drop j) (vs.drop j) ((x :: xs).drop (j + 1))) := by
  intro ks
  induction ks with
  | nil =>
    intro vs xs x hv hx j h
    have : xs = [] := List.eq_nil_of_length_eq_zero hx
    subst this
    have : j = 0 := by simpa using h
    subst this
    simp [wl]
  | cons k ks ih =>
    intro vs xs x hv hx j h
    match vs, xs, hv, hx with
    | v :: vs, y :: ys, hv, hx =>
      cases j with
      | zero => simp [wl]
      | succ j =>
        have := ih vs ys y (by simpa using hv) (by simpa using hx) j (by simpa using h)
        simp only [wr, List.take_succ_cons, List.drop_succ_cons, List.getElem_cons_succ, wl]
        rw [this]; simp
theorem weave_split (ks : List Num) (vs : List Int) (X : List (List KV)) (hv : vs.length = ks.length) (hx : X.length = ks.length + 1) (j : Nat) (h : j < X.length) :
    weave ks vs X = wl (ks.take j) (vs.take j) (X.take j) ++ (X[j] ++ wr (ks.drop j) (vs.drop j) (X.drop (j + 1))) := by
  match X, hx with
  | x :: xs, hx => exact wr_split ks vs xs x hv (by simpa using hx) j h
theorem wl_le : ∀ (ks : List Num) (vs : List Int) (xs : List (List KV)) (Z : List KV), Srt (wl ks vs xs ++ Z) → ∀ p ∈ wl ks vs xs, ∃ k ∈ ks, p.1.toNat ≤ k.toNat := by
  intro ks
  induction ks with
  | nil => intro vs xs Z _ p hp; simp [wl] at hp
  | cons k ks ih =>
    intro vs xs Z hs p hp
    match vs, xs, hs, hp with
    | [], _, _, hp => simp [wl] at hp
    | v :: vs, [], _, hp => simp [wl] at hp
    | v :: vs, x :: xs, hs, hp =>
      simp only [wl, List.append_assoc, List.cons_append] at hs hp
      unfold Srt at hs
      rw [List.pairwise_append] at hs
      rcases List.mem_append.1 hp with h | h
      · exact ⟨k, List.mem_cons_self .., Nat.le_of_lt (hs.2.2 p h (k, v) (List.mem_cons_self ..))⟩
      · rcases List.mem_cons.1 h with rfl | h
        · exact ⟨k, List.mem_cons_self .., Nat.le_refl _⟩
        · obtain ⟨k', h1, h2⟩ := ih vs xs Z (List.pairwise_cons.1 hs.2.1).2 p h
          exact ⟨k', List.mem_cons_of_mem _ h1, h2⟩
theorem flatK_len : ∀ (ts : List Tree), (flatK ts).length = ts.length := by
  intro ts; induction ts with
  | nil => rfl
  | cons t ts ih => simp [flatK, ih]
theorem flatK_get : ∀ (ts : List Tree) (j : Nat) (h : j < ts.length), (flatK ts)[j]'(by rw [flatK_len]; exact h) = flatT ts[j] := by
  intro ts; induction ts with
  | nil => intro j h; simp at h
  | cons t ts ih =>
    intro j h
    cases j with
    | zero => simp [flatK]
    | succ j => simp only [flatK, List.getElem_cons_succ]; exact ih j (by simpa using h)
theorem flatK_take : ∀ (ts : List Tree) (j : Nat), flatK (ts.take j) = (flatK ts).take j := by
  intro ts; induction ts with
  | nil => intro j; simp [flatK]
  | cons t ts ih => intro j; cases j with
    | zero => simp [flatK]
    | succ j => simp [flatK, ih]
theorem flatK_drop : ∀ (ts : List Tree) (j : Nat), flatK (ts.drop j) = (flatK ts).drop j := by
  intro ts; induction ts with
  | nil => intro j; simp [flatK]
  | cons t ts ih => intro j; cases j with
    | zero => simp [flatK]
    | succ j => simp [flatK, ih]
theorem flatK_app : ∀ (a b : List Tree), flatK (a ++ b) = flatK a ++ flatK b := by
  intro a b; induction a with
  | nil => rfl
  | cons t a ih => simp [flatK, ih]
theorem flatK_set (ts : List Tree) (j : Nat) (t : Tree) : flatK (ts.set j t) = (flatK ts).set j (flatT t) := by
  induction ts generalizing j with
  | nil => rfl
  | cons x ts ih => cases j with
    | zero => rfl
    | succ j => simp [flatK, ih]
/-- A node with kids, at a kid. -/
theorem flat_at {ks : List Num} {vs : List Int} {ts : List Tree} (hv : vs.length = ks.length) (ht : ts.length = ks.length + 1) (j : Nat) (h : j < ts.length) :
    flatT (.node ks vs ts) = wl (ks.take j) (vs.take j) ((flatK ts).take j) ++ (flatT ts[j] ++ wr (ks.drop j) (vs.drop j) ((flatK ts).drop (j + 1))) := by
  simp only [flatT]
  rw [weave_split ks vs (flatK ts) hv (by rw [flatK_len, ht]) j (by rw [flatK_len]; exact h), flatK_get ts j h]
theorem flat_leaf {ks : List Num} {vs : List Int} : flatT (.node ks vs []) = ks.zip vs := rfl
end Go.Proofs.YtpcechnalfaajaaDoor

/- Trees of an index, in plain Lean: a node at a key's place; look-up, put and part by what the tree holds. -/
namespace Go.Proofs.YtpcechnalfaajaaDoor
open Go Go.Proofs

theorem mem_zip_fst {ks : List Num} {vs : List Int} {p : KV} (h : p ∈ ks.zip vs) : p.1 ∈ ks := (List.of_mem_zip (a := p.1) (b := p.2) h).1
theorem take_lt {key : Num} {ks : List Num} {k : Num} (h : k ∈ ks.take (placeN key ks).1) : k.toNat < key.toNat := by
  obtain ⟨i, hi, rfl⟩ := List.getElem_of_mem h
  rw [List.getElem_take]
  have : i < min (placeN key ks).1 ks.length := by simpa using hi
  exact (placeN_spec key ks).1 i (by omega) (by omega)
structure View (key : Num) (ks : List Num) (vs : List Int) (ts : List Tree) (A X B : List KV) : Prop where
  flat : flatT (.node ks vs ts) = A ++ (X ++ B)
  lt : ∀ p ∈ A, p.1.toNat < key.toNat
  leaf : ts = [] → X = []
  kid : ∀ h : (placeN key ks).1 < ts.length, X = flatT ts[(placeN key ks).1]
  hit : (placeN key ks).2 = true → ∃ B', B = (key, vs.getD (placeN key ks).1 0) :: B' ∧ (∀ p ∈ X, p.1.toNat < key.toNat) ∧ ∀ v, flatT (.node ks (vs.set (placeN key ks).1 v) ts) = A ++ (X ++ (key, v) :: B')
  miss : (placeN key ks).2 = false → ∀ p ∈ B, key.toNat < p.1.toNat
  ins : ts = [] → ∀ v, flatT (.node (insAt ks (placeN key ks).1 key) (insAt vs (placeN key ks).1 v) []) = A ++ (key, v) :: B
  set : ∀ (_ : (placeN key ks).1 < ts.length) t, flatT (.node ks vs (ts.set (placeN key ks).1 t)) = A ++ (flatT t ++ B)
theorem view (key : Num) {ks : List Num} {vs : List Int} {ts : List Tree} (hv : vs.length = ks.length) (ht : ts = [] ∨ ts.length = ks.length + 1) (hs : Srt (flatT (.node ks vs ts))) : ∃ A X B, View key ks vs ts A X B := by
  have hps := placeN_spec key ks
  have hple := placeN_le key ks
  generalize hj : (placeN key ks).1 = j at *
  have tlt : ∀ k ∈ ks.take j, k.toNat < key.toNat := fun k hk => take_lt (by rw [hj]; exact hk)
  rcases ht with rfl | ht
  · -- a leaf
    have hsp : ∀ (vs : List Int), vs.length = ks.length → ks.zip vs = (ks.take j).zip (vs.take j) ++ (ks.drop j).zip (vs.drop j) := by
      intro vs hv
      rw [← List.zip_append (by simp [hv]), List.take_append_drop, List.take_append_drop]
    have hs' : Srt (ks.zip vs) := hs
    rw [hsp vs hv] at hs'
    unfold Srt at hs'
    rw [List.pairwise_append] at hs'
    have hd : ∀ (vs : List Int), vs.length = ks.length → ∀ h : j < ks.length, (ks.drop j).zip (vs.drop j) = (ks[j], vs.getD j 0) :: (ks.drop (j + 1)).zip (vs.drop (j + 1)) := by
      intro vs hv h
      rw [List.drop_eq_getElem_cons h, List.drop_eq_getElem_cons (show j < vs.length by omega), List.zip_cons_cons]
      simp [List.getD, show j < vs.length by omega]
    refine ⟨(ks.take j).zip (vs.take j), [], (ks.drop j).zip (vs.drop j), ?_⟩
    constructor
    · exact hsp vs hv
    · intro p hp; exact tlt _ (mem_zip_fst hp)
    · intro _; rfl
    · intro h; simp at h
    · intro hf
      have hlt : j < ks.length := hple.2 hf
      have h1 := (hps.2.1 hlt).2
      rw [hf] at h1
      have hk : ks[j] = key := of_decide_eq_true h1.symm
      refine ⟨(ks.drop (j + 1)).zip (vs.drop (j + 1)), by rw [hj, hd vs hv hlt, hk], fun p hp => by simp at hp, fun v => ?_⟩
      rw [hj]
      show ks.zip (vs.set j v) = _
      rw [hsp _ (by simp [hv]), hd _ (by simp [hv]) hlt, hk]
      simp [List.getD, show j < vs.length by omega, List.take_set_of_le, List.drop_set_of_lt]
    · intro hf p hp
      rcases Nat.lt_or_ge j ks.length with hlt | hge
      · obtain ⟨h1, h2⟩ := hps.2.1 hlt
        rw [hf] at h2
        have hne : ks[j] ≠ key := of_decide_eq_false h2.symm
        have h3 : key.toNat < ks[j].toNat := by
          rcases Nat.lt_or_ge key.toNat ks[j].toNat with h | h
          · exact h
          · exact absurd (BitVec.eq_of_toNat_eq (by omega)) hne
        have hs2 := hs'.2.1
        rw [hd vs hv hlt] at hp hs2
        rcases List.mem_cons.1 hp with rfl | hp
        · exact h3
        · exact Nat.lt_trans h3 ((List.pairwise_cons.1 hs2).1 p hp)
      · rw [List.drop_of_length_le hge] at hp; simp at hp
    · intro _ v
      rw [hj]
      show (insAt ks j key).zip (insAt vs j v) = _
      unfold insAt
      rw [List.zip_append (by simp [hv]), List.zip_cons_cons]
    · intro h; simp at h
  · -- with kids
    have hjt : j < ts.length := by omega
    have hat : ∀ (vs : List Int) (ts : List Tree), vs.length = ks.length → ts.length = ks.length + 1 → ∀ h : j < ts.length, flatT (.node ks vs ts) = wl (ks.take j) (vs.take j) ((flatK ts).take j) ++ (flatT ts[j] ++ wr (ks.drop j) (vs.drop j) ((flatK ts).drop (j + 1))) := fun vs ts hv ht h => flat_at hv ht j h
    have hs' := hs
    rw [hat vs ts hv ht hjt] at hs'
    have hA := wl_le _ _ _ _ hs'
    unfold Srt at hs'
    rw [List.pairwise_append, List.pairwise_append] at hs'
    have hd : ∀ (vs : List Int), vs.length = ks.length → ∀ h : j < ks.length, ∃ Z, wr (ks.drop j) (vs.drop j) ((flatK ts).drop (j + 1)) = (ks[j], vs.getD j 0) :: Z ∧ ∀ v, wr (ks.drop j) ((vs.set j v).drop j) ((flatK ts).drop (j + 1)) = (ks[j], v) :: Z := by
      intro vs hv h
      have hx : j + 1 < (flatK ts).length := by rw [flatK_len]; omega
      have hl : j < vs.length := by omega
      refine ⟨(flatK ts)[j + 1] ++ wr (ks.drop (j + 1)) (vs.drop (j + 1)) ((flatK ts).drop (j + 1 + 1)), ?_, fun v => ?_⟩
      · rw [List.drop_eq_getElem_cons h, List.drop_eq_getElem_cons hl, List.drop_eq_getElem_cons hx]
        simp [wr, List.getD, hl]
      · rw [List.drop_eq_getElem_cons h, List.drop_eq_getElem_cons (show j < (vs.set j v).length by simpa using hl), List.drop_eq_getElem_cons hx]
        simp [wr, List.drop_set_of_lt]
    refine ⟨wl (ks.take j) (vs.take j) ((flatK ts).take j), flatT ts[j], wr (ks.drop j) (vs.drop j) ((flatK ts).drop (j + 1)), ?_⟩
    constructor
    · exact hat vs ts hv ht hjt
    · intro p hp
      obtain ⟨k, hk, hle⟩ := hA p hp
      exact Nat.lt_of_le_of_lt hle (tlt k hk)
    · intro h; rw [h] at ht; simp at ht
    · intro h; simp only [hj]
    · intro hf
      have hlt : j < ks.length := hple.2 hf
      have h1 := (hps.2.1 hlt).2
      rw [hf] at h1
      have hk : ks[j] = key := of_decide_eq_true h1.symm
      obtain ⟨Z, h2, h3⟩ := hd vs hv hlt
      refine ⟨Z, by rw [hj, h2, hk], fun p hp => ?_, fun v => ?_⟩
      · have := hs'.2.1.2.2 p hp _ (by rw [h2]; exact List.mem_cons_self ..)
        rw [hk] at this; exact this
      · rw [hj, hat (vs.set j v) ts (by simp [hv]) ht hjt, h3 v, hk, List.take_set_of_le (Nat.le_refl _)]
    · intro hf p hp
      rcases Nat.lt_or_ge j ks.length with hlt | hge
      · obtain ⟨h1, h2⟩ := hps.2.1 hlt
        rw [hf] at h2
        have hne : ks[j] ≠ key := of_decide_eq_false h2.symm
        have h3 : key.toNat < ks[j].toNat := by
          rcases Nat.lt_or_ge key.toNat ks[j].toNat with h | h
          · exact h
          · exact absurd (BitVec.eq_of_toNat_eq (by omega)) hne
        have hs2 := hs'.2.1.2.1
        obtain ⟨Z, h4, _⟩ := hd vs hv hlt
        rw [h4] at hp hs2
        rcases List.mem_cons.1 hp with rfl | hp
        · exact h3
        · exact Nat.lt_trans h3 ((List.pairwise_cons.1 hs2).1 p hp)
      · rw [List.drop_of_length_le hge] at hp; simp [wr] at hp
    · intro h; rw [h] at ht; simp at ht
    · intro h t
      rw [hj]
      have h' : j < (ts.set j t).length := by simpa using hjt
      rw [hat vs (ts.set j t) hv (by simp [ht]) h', flatK_set, List.take_set_of_le (Nat.le_refl _), List.drop_set_of_lt (by omega)]
      simp
theorem srt_parts {A X B : List KV} (h : Srt (A ++ (X ++ B))) : Srt X := by
  unfold Srt at h ⊢
  rw [List.pairwise_append, List.pairwise_append] at h
  exact h.2.1.1
theorem get_flat (key : Num) : ∀ (N : Nat) (t : Tree), sizeT t ≤ N → Ok t → Srt (flatT t) → getT key t = getL key (flatT t) := by
  intro N
  induction N with
  | zero => intro t hN hok; cases hok; simp only [sizeT] at hN; omega
  | succ N ih =>
    intro t hN hok hs
    cases hok with
    | mk hv ht hsub =>
    rename_i ks vs ts
    obtain ⟨A, X, B, V⟩ := view key hv ht hs
    have hne : ∀ {l : List KV}, (∀ p ∈ l, p.1.toNat < key.toNat) → ∀ p ∈ l, p.1 ≠ key := fun h p hp e => by have := h p hp; rw [e] at this; omega
    have hne2 : ∀ {l : List KV}, (∀ p ∈ l, key.toNat < p.1.toNat) → ∀ p ∈ l, p.1 ≠ key := fun h p hp e => by have := h p hp; rw [e] at this; omega
    rw [V.flat, getL_app key A _ (hne V.lt), getT]
    by_cases hf : (placeN key ks).2 = true
    · rw [if_pos hf]
      obtain ⟨B', h1, h2, _⟩ := V.hit hf
      rw [h1, getL_app key X _ (hne h2)]
      simp [getL]
    · rw [if_neg hf]
      rw [getL_app_r key X B (hne2 (V.miss (by simpa using hf)))]
      by_cases hts : ts = []
      · rw [V.leaf hts, hts]; rfl
      · have hlen : ts.length = ks.length + 1 := ht.resolve_left hts
        have hj : (placeN key ks).1 < ts.length := by have := (placeN_le key ks).1; omega
        have hX := V.kid hj
        rw [getK_at key ts _ hj, hX]
        have h0 := sizeK_at ts _ hj
        refine ih _ (by simp only [sizeT] at hN; omega) (hsub _ (List.getElem_mem hj)) ?_
        rw [V.flat, hX] at hs
        exact srt_parts hs
/-- A node that is parted holds what it held. -/
theorem part_flat {ks : List Num} {vs : List Int} {ts : List Tree} {j : Nat} (hv : vs.length = ks.length) (ht : ts.length = ks.length + 1) (hj : j < ts.length) {lk : List Num} {lv : List Int} {lt : List Tree} (hk : ts[j] = .node lk lv lt)
    (h1 : 0 < lk.length) (h2 : lv.length = lk.length) (h3 : lt = [] ∨ lt.length = lk.length + 1) : flatT (partT (.node ks vs ts) j) = flatT (.node ks vs ts) := by
  have hjk : j ≤ ks.length := by omega
  have h0 : ts[j]? = some (.node lk lv lt) := by rw [List.getElem?_eq_getElem hj, hk]
  rw [flat_at hv ht j hj, hk]
  simp only [partT, h0]
  generalize hm : lk.length / 2 = m
  have hml : m < lk.length := by omega
  generalize hL : Tree.node (lk.take m) (lv.take m) (lt.take (m + 1)) = L
  generalize hR : Tree.node (lk.drop (m + 1)) (lv.drop (m + 1)) (lt.drop (m + 1)) = R
  have key : flatT (.node lk lv lt) = flatT L ++ (lk.getD m 0, lv.getD m 0) :: flatT R := by
    have g1 : lk.getD m 0 = lk[m] := by simp [List.getD, hml]
    have g2 : lv.getD m 0 = lv[m]'(by omega) := by simp [List.getD, show m < lv.length by omega]
    rcases h3 with rfl | h3
    · rw [← hL, ← hR]
      simp only [List.take_nil, List.drop_nil, flat_leaf]
      rw [g1, g2, ← List.zip_cons_cons, ← List.drop_eq_getElem_cons hml, ← List.drop_eq_getElem_cons (show m < lv.length by omega), ← List.zip_append (by simp [h2]), List.take_append_drop, List.take_append_drop]
    · rw [flat_at h2 h3 m (by omega), ← hL, ← hR]
      have e1 : lt.take (m + 1) = lt.take m ++ [lt[m]'(by omega)] := List.take_succ_eq_append_getElem (by omega)
      rw [flat_at (ks := lk.take m) (vs := lv.take m) (ts := lt.take (m + 1)) (by simp [h2]) (by simp; omega) m (by simp; omega)]
      have e2 : (flatK (lt.take (m + 1))).drop (m + 1) = [] := List.drop_of_length_le (by rw [flatK_len]; simp; omega)
      have e3 : (flatK (lt.take (m + 1))).take m = (flatK lt).take m := by rw [flatK_take, List.take_take]; congr 1; omega
      rw [e2, e3]
      have e4 : (lk.take m).take m = lk.take m := by rw [List.take_take, Nat.min_self]
      have e5 : (lv.take m).take m = lv.take m := by rw [List.take_take, Nat.min_self]
      have e6 : wr ((lk.take m).drop m) ((lv.take m).drop m) [] = [] := by cases (lk.take m).drop m <;> cases (lv.take m).drop m <;> rfl
      rw [e4, e5, e6, List.append_nil, List.append_assoc]
      congr 1
      rw [List.getElem_take]
      congr 1
      have hx : m + 1 < lt.length := by omega
      rw [List.drop_eq_getElem_cons hml, List.drop_eq_getElem_cons (show m < lv.length by omega), List.drop_eq_getElem_cons (show m + 1 < (flatK lt).length by rw [flatK_len]; exact hx)]
      simp only [wr]
      rw [g1, g2]
      congr 1
      simp only [flatT]
      rw [flatK_drop, List.drop_eq_getElem_cons (show m + 1 < (flatK lt).length by rw [flatK_len]; exact hx)]
      rfl
  have hins : ∀ {α : Type} (l : List α) (x : α), j ≤ l.length → (insAt l j x).take j = l.take j ∧ (insAt l j x).drop j = x :: l.drop j := by
    intro α l x h
    unfold insAt
    constructor
    · rw [List.take_append_of_le_length (by simp; omega), List.take_take, Nat.min_self]
    · rw [List.drop_append_of_le_length (by simp; omega), List.drop_of_length_le (by rw [List.length_take]; omega), List.nil_append]
  have hlen : (ts.take j ++ L :: R :: ts.drop (j + 1)).length = ts.length + 1 := by simp; omega
  have hj' : j < (ts.take j ++ L :: R :: ts.drop (j + 1)).length := by omega
  rw [flat_at (by simp [insAt]; omega) (by rw [hlen]; simp [insAt]; omega) j hj', (hins ks _ hjk).1, (hins ks _ hjk).2, (hins vs _ (by omega)).1, (hins vs _ (by omega)).2]
  have f1 : (flatK (ts.take j ++ L :: R :: ts.drop (j + 1))).take j = (flatK ts).take j := by
    rw [← flatK_take, List.take_append_of_le_length (by simp; omega), List.take_take, Nat.min_self, flatK_take]
  have f2 : (flatK (ts.take j ++ L :: R :: ts.drop (j + 1))).drop (j + 1) = flatT R :: (flatK ts).drop (j + 1) := by
    rw [← flatK_drop, ← flatK_drop]
    have : (ts.take j ++ L :: R :: ts.drop (j + 1)).drop (j + 1) = R :: ts.drop (j + 1) := by
      rw [show ts.take j ++ L :: R :: ts.drop (j + 1) = (ts.take j ++ [L]) ++ R :: ts.drop (j + 1) by simp]
      rw [List.drop_append_of_le_length (by simp; omega), List.drop_of_length_le (by simp; omega), List.nil_append]
    rw [this]; rfl
  have f3 : (ts.take j ++ L :: R :: ts.drop (j + 1))[j]'hj' = L := by
    rw [List.getElem_append_right (by simp; omega)]; simp [show min j ts.length = j by omega]
  rw [f1, f2, f3, key]
  simp [wr]
theorem cntK_app : ∀ (a b : List Tree), cntK (a ++ b) = cntK a + cntK b := by
  intro a b; induction a with
  | nil => simp [cntK]
  | cons t a ih => simp only [List.cons_append, cntK, ih]; omega
theorem cntK_set (ts : List Tree) (j : Nat) (h : j < ts.length) (t : Tree) : cntK (ts.set j t) + cntT ts[j] = cntK ts + cntT t := by
  induction ts generalizing j with
  | nil => simp at h
  | cons x ts ih => cases j with
    | zero => simp only [List.set_cons_zero, cntK, List.getElem_cons_zero]; omega
    | succ j => have := ih j (by simpa using h); simp only [List.set_cons_succ, cntK, List.getElem_cons_succ]; omega
theorem part_ok {ks : List Num} {vs : List Int} {ts : List Tree} {j : Nat} (hv : vs.length = ks.length) (ht : ts.length = ks.length + 1) (hj : j < ts.length) (hall : ∀ t ∈ ts, Ok t) {lk : List Num} {lv : List Int} {lt : List Tree} (hk : ts[j] = .node lk lv lt)
    (h1 : 0 < lk.length) : Ok (partT (.node ks vs ts) j) ∧ cntT (partT (.node ks vs ts) j) = cntT (.node ks vs ts) := by
  have h0 : ts[j]? = some (.node lk lv lt) := by rw [List.getElem?_eq_getElem hj, hk]
  have hokj := hall _ (List.getElem_mem hj)
  rw [hk] at hokj
  cases hokj with
  | mk h2 h3 h4 =>
  simp only [partT, h0]
  generalize hm : lk.length / 2 = m
  have hml : m < lk.length := by omega
  have okL : Ok (.node (lk.take m) (lv.take m) (lt.take (m + 1))) := by
    refine .mk (by simp [h2]) ?_ fun t ht => h4 t (List.mem_of_mem_take ht)
    rcases h3 with rfl | h3
    · left; simp
    · right; simp; omega
  have okR : Ok (.node (lk.drop (m + 1)) (lv.drop (m + 1)) (lt.drop (m + 1))) := by
    refine .mk (by simp [h2]) ?_ fun t ht => h4 t (List.mem_of_mem_drop ht)
    rcases h3 with rfl | h3
    · left; simp
    · right; simp; omega
  refine ⟨.mk (by simp [insAt]; omega) (.inr (by simp [insAt]; omega)) fun t ht => ?_, ?_⟩
  · rcases List.mem_append.1 ht with h | h
    · exact hall t (List.mem_of_mem_take h)
    · rcases List.mem_cons.1 h with rfl | h
      · exact okL
      · rcases List.mem_cons.1 h with rfl | h
        · exact okR
        · exact hall t (List.mem_of_mem_drop h)
  · simp only [cntT, cntK_app, cntK]
    have e1 : cntK ts = cntK (ts.take j) + (cntT (.node lk lv lt) + cntK (ts.drop (j + 1))) := by
      have : ts = ts.take j ++ ts[j] :: ts.drop (j + 1) := by rw [← List.drop_eq_getElem_cons hj, List.take_append_drop]
      conv => lhs; rw [this, hk]
      simp only [cntK_app, cntK]
    have e2 : cntK lt = cntK (lt.take (m + 1)) + cntK (lt.drop (m + 1)) := by rw [← cntK_app, List.take_append_drop]
    rw [e1]
    simp only [cntT]
    have e3 : (insAt ks j (lk.getD m 0)).length = ks.length + 1 := by simp [insAt]; omega
    rw [e3, e2]
    simp only [List.length_take, List.length_drop]
    omega
/-- Put keeps a tree's shape, and tells how many keys there are. -/
theorem put_ok (key : Num) (v : Int) : ∀ (N : Nat) (t : Tree), sizeT t ≤ N → Ok t → Ok (putT key v t).1 ∧ cntT (putT key v t).1 = cntT t + (if (putT key v t).2 then 1 else 0) := by
  intro N
  induction N with
  | zero => intro t hN hok; cases hok; simp only [sizeT] at hN; omega
  | succ N ih =>
    intro t hN hok
    cases hok with
    | mk hv ht hsub =>
    rename_i ks vs ts
    by_cases hf : (placeN key ks).2 = true
    · rw [putT_hit hf]
      exact ⟨.mk (by simp [hv]) ht hsub, by simp [cntT]⟩
    · have hf : (placeN key ks).2 = false := by simpa using hf
      have hple := (placeN_le key ks).1
      by_cases hts : ts = []
      · subst hts
        rw [putT_leaf hf]
        exact ⟨.mk (by simp [insAt]; omega) (.inl rfl) hsub, by simp [cntT, insAt]; omega⟩
      · have hlen : ts.length = ks.length + 1 := ht.resolve_left hts
        have hj : (placeN key ks).1 < ts.length := by omega
        have h0 := sizeK_at ts _ hj
        obtain ⟨h1, h2⟩ := ih _ (by simp only [sizeT] at hN; omega) (hsub _ (List.getElem_mem hj))
        rw [putT_kid hf hj]
        generalize (placeN key ks).1 = j at *
        generalize hr : putT key v ts[j] = r at *
        have hall : ∀ t ∈ ts.set j r.1, Ok t := fun t ht => by
          rcases List.mem_or_eq_of_mem_set ht with h | rfl
          · exact hsub t h
          · exact h1
        have hc := cntK_set ts j hj r.1
        have hok2 : Ok (.node ks vs (ts.set j r.1)) := .mk hv (.inr (by simp [hlen])) hall
        have hcnt : cntT (.node ks vs (ts.set j r.1)) = cntT (.node ks vs ts) + (if r.2 then 1 else 0) := by
          simp only [cntT]; omega
        show Ok (fixT j _ r.1) ∧ cntT (fixT j _ r.1) = _
        unfold fixT
        split
        · rename_i h5
          obtain ⟨t1, b⟩ := r
          obtain ⟨lk, lv, lt⟩ := t1
          have := part_ok (vs := vs) (ts := ts.set j (.node lk lv lt)) (j := j) (lk := lk) (lv := lv) (lt := lt) hv (by simp [hlen]) (by simpa using hj) hall (by simp) (by simp only [keysT] at h5; omega)
          exact ⟨this.1, by rw [this.2]; exact hcnt⟩
        · exact ⟨hok2, hcnt⟩
theorem put_flat (key : Num) (v : Int) : ∀ (N : Nat) (t : Tree), sizeT t ≤ N → Ok t → Srt (flatT t) →
    flatT (putT key v t).1 = putL key v (flatT t) ∧ (putT key v t).2 = (getL key (flatT t)).isNone := by
  intro N
  induction N with
  | zero => intro t hN hok; cases hok; simp only [sizeT] at hN; omega
  | succ N ih =>
    intro t hN hok hs
    cases hok with
    | mk hv ht hsub =>
    rename_i ks vs ts
    obtain ⟨A, X, B, V⟩ := view key hv ht hs
    have hne : ∀ {l : List KV}, (∀ p ∈ l, p.1.toNat < key.toNat) → ∀ p ∈ l, p.1 ≠ key := fun h p hp e => by have := h p hp; rw [e] at this; omega
    have hne2 : ∀ {l : List KV}, (∀ p ∈ l, key.toNat < p.1.toNat) → ∀ p ∈ l, p.1 ≠ key := fun h p hp e => by have := h p hp; rw [e] at this; omega
    rw [V.flat, getL_app key A _ (hne V.lt), putL_lt key v A _ V.lt]
    by_cases hf : (placeN key ks).2 = true
    · rw [putT_hit hf]
      obtain ⟨B', h1, h2, h3⟩ := V.hit hf
      refine ⟨?_, ?_⟩
      · show flatT (.node ks (vs.set _ v) ts) = _
        rw [h3 v, h1, putL_lt key v X _ h2]
        simp [putL]
      · rw [h1, getL_app key X _ (hne h2)]
        simp [getL]
    · have hf : (placeN key ks).2 = false := by simpa using hf
      rw [putL_gt key v X B (V.miss hf), getL_app_r key X B (hne2 (V.miss hf))]
      by_cases hts : ts = []
      · subst hts
        rw [putT_leaf hf, V.leaf rfl]
        exact ⟨V.ins rfl v, rfl⟩
      · have hlen : ts.length = ks.length + 1 := ht.resolve_left hts
        have hj : (placeN key ks).1 < ts.length := by have := (placeN_le key ks).1; omega
        have hX := V.kid hj
        have h0 := sizeK_at ts _ hj
        have hih := ih _ (by simp only [sizeT] at hN; omega) (hsub _ (List.getElem_mem hj)) (by rw [V.flat, hX] at hs; exact srt_parts hs)
        rw [putT_kid hf hj, hX]
        refine ⟨?_, hih.2⟩
        rw [← hih.1, ← V.set hj]
        obtain ⟨h1, _⟩ := put_ok key v _ _ (Nat.le_refl _) (hsub _ (List.getElem_mem hj))
        generalize (placeN key ks).1 = j at *
        generalize hr : putT key v ts[j] = r at *
        show flatT (fixT j _ r.1) = _
        unfold fixT
        split
        · rename_i h5
          obtain ⟨t1, b⟩ := r
          obtain ⟨lk, lv, lt⟩ := t1
          cases h1 with
          | mk h1 h2 h3 =>
          exact part_flat (vs := vs) (ts := ts.set j (.node lk lv lt)) (j := j) (lk := lk) (lv := lv) (lt := lt) hv (by simp [hlen]) (by simpa using hj) (by simp) (by simp only [keysT] at h5; omega) h1 h2
        · rfl
theorem putT_flat (key : Num) (v : Int) (t : Tree) (hok : Ok t) (hs : Srt (flatT t)) : flatT (putT key v t).1 = putL key v (flatT t) ∧ (putT key v t).2 = (getL key (flatT t)).isNone := put_flat key v _ t (Nat.le_refl _) hok hs
theorem putT_ok (key : Num) (v : Int) (t : Tree) (hok : Ok t) : Ok (putT key v t).1 ∧ cntT (putT key v t).1 = cntT t + (if (putT key v t).2 then 1 else 0) := put_ok key v _ t (Nat.le_refl _) hok
theorem getT_flat (key : Num) (t : Tree) (hok : Ok t) (hs : Srt (flatT t)) : getT key t = getL key (flatT t) := get_flat key _ t (Nat.le_refl _) hok hs
theorem mem_putL {key : Num} {v : Int} {l : List KV} {p : KV} (h : p ∈ putL key v l) : p = (key, v) ∨ p ∈ l := by
  induction l with
  | nil => simp [putL] at h; exact .inl h
  | cons x t ih =>
    obtain ⟨k, w⟩ := x
    simp only [putL] at h
    split at h
    · rcases List.mem_cons.1 h with h | h
      · exact .inl h
      · exact .inr (List.mem_cons_of_mem _ h)
    · split at h
      · rcases List.mem_cons.1 h with h | h
        · exact .inl h
        · exact .inr h
      · rcases List.mem_cons.1 h with h | h
        · exact .inr (by rw [h]; exact List.mem_cons_self ..)
        · exact (ih h).imp id fun h => List.mem_cons_of_mem _ h
theorem putL_srt {key : Num} {v : Int} {l : List KV} (h : Srt l) : Srt (putL key v l) := by
  induction l with
  | nil => simp [putL, Srt]
  | cons x t ih =>
    obtain ⟨k, w⟩ := x
    unfold Srt at h
    obtain ⟨h1, h2⟩ := List.pairwise_cons.1 h
    simp only [putL]
    split
    · rename_i e; subst e; exact List.pairwise_cons.2 ⟨h1, h2⟩
    · rename_i hne
      split
      · rename_i hlt
        exact List.pairwise_cons.2 ⟨fun p hp => by
          rcases List.mem_cons.1 hp with rfl | hp
          · exact hlt
          · exact Nat.lt_trans hlt (h1 p hp), h⟩
      · rename_i hge
        refine List.pairwise_cons.2 ⟨fun p hp => ?_, ih h2⟩
        rcases mem_putL hp with rfl | hp
        · show k.toNat < key.toNat
          rcases Nat.lt_or_ge k.toNat key.toNat with h | h
          · exact h
          · exact absurd (BitVec.eq_of_toNat_eq (by omega)) hne
        · exact h1 p hp
theorem zip_len {ks : List Num} {vs : List Int} (h : vs.length = ks.length) : (ks.zip vs).length = ks.length := by simp [h]
/-- A node with another kid in a place. -/
theorem set_in {κ : Kap} {ks : List Num} {vs : List Int} {ts : List Tree} {b : Nat} {cs : List HProp} {g : Hp} {j : Nat} {t : Tree} {i : NodeI} (hj : j < ts.length) (hb : i.bs.length = ts.length)
    (h : sepL κ (tn t (i.bs[j]'(by omega)) :: hdr b ks vs i (kidsP (ts.take j) (i.bs.take j) ++ (kidsP (ts.drop (j + 1)) (i.bs.drop (j + 1)) ++ cs))) g) : sepL κ (tn (.node ks vs (ts.set j t)) b :: cs) g := by
  refine node_in i ⟨by simp [hb], fun h => ?_⟩ ?_
  · have := congrArg List.length h; simp at this; rw [this] at hj; simp at hj
  · rw [kids_split (ts.set j t) i.bs j (by simpa using hj) (by omega), List.append_assoc, List.cons_append, List.take_set_of_le (Nat.le_refl _), List.drop_set_of_lt (by omega), List.getElem_set_self]
    exact hdr_in h
end Go.Proofs.YtpcechnalfaajaaDoor
