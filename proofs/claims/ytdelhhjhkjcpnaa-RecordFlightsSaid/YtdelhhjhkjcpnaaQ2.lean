/- Part Q2 of a claim: a machine over the model on plain data, what it makes of the program, plain laws. -/
import Derived.Test.YtdelhhjhkjcpnaaQ1
set_option linter.unusedVariables false
set_option linter.unusedSimpArgs false
namespace Go.VM
section
variable {N : Nat} {w s0 s1 s2 s3 b : Int} {fs : List D2} {fr : List (List Int)} {sub : List Int}
/-- The places of the good frames. -/
def idxs : Nat → List Int → List Int
  | _, [] => []
  | i, s :: r => bif decide (0 ≤ s) then (i : Int) :: idxs (i + 1) r else idxs (i + 1) r
theorem goods_idxs : ∀ (r : List Int) (i : Nat), (goods i r).map (·.1) = idxs i r
  | [], i => rfl
  | s :: r, i => by
    simp only [goods, idxs]
    cases decide (0 ≤ s) with
    | true => simp [goods_idxs r (i + 1)]
    | false => simp [goods_idxs r (i + 1)]
theorem goods_len : ∀ (r : List Int) (i : Nat), (goods i r).length ≤ r.length
  | [], i => Nat.le_refl _
  | s :: r, i => by
    have := goods_len r (i + 1)
    simp only [goods]
    cases decide (0 ≤ s) <;> simp <;> omega
theorem idxs_len (r : List Int) (i : Nat) : (idxs i r).length ≤ r.length := by
  rw [← goods_idxs, List.length_map]
  exact goods_len r i
def goodR (w s0 s1 s2 s3 : Int) (fs : List D2) (fr : List (List Int)) : List Int × Int :=
  bif layOK w s0 s1 s2 s3 fs then (bif decide (fr.length ≤ 200) then (idxs 0 (fr.map (subf w s0 s1 s2 s3)), 0) else ([], 2)) else ([], 120)
theorem m23_l0_eq {c0 c1 c2 c3 c4 : Int} {gs : List D2} {fr' : List (List Int)} : ∀ (ys : List D6) (a : List Int), a.length + ys.length < 1000 →
    m23_l0 N ys a c0 c1 c2 c3 c4 gs fr' sub = some (a ++ ys.map (·.1), (c0, (c1, (c2, (c3, (c4, (gs, (fr', sub))))))))
  | [], a, h => by simp [m23_l0]
  | y :: r, a, h => by
    simp only [List.length_cons] at h
    simp only [m23_l0]
    rw [room_small (by simp; omega) (by omega), cond_true, m23_l0_eq r (a ++ [y.1]) (by simp; omega)]
    simp
theorem m23_eq (hN : 300 < N) (hf : ∀ f, f ∈ fs → I64 f.2.2.1) : m23 N w s0 s1 s2 s3 fs fr = some (goodR w s0 s1 s2 s3 fs fr) := by
  unfold m23 goodR
  rw [m71_eq hN hf, Option.bind_some]
  unfold tapeR
  cases h1 : layOK w s0 s1 s2 s3 fs with
  | false => rfl
  | true =>
    by_cases h2 : fr.length ≤ 200
    · simp only [h2, decide_true, cond_true]
      have e : decide ((0 : Int) ≠ 0) = false := rfl
      rw [e]
      simp only [cond_false]
      have hlen := goods_len (fr.map (subf w s0 s1 s2 s3)) 0
      simp only [List.length_map] at hlen
      rw [i72_eq (by simp; omega) (by simp; omega), Option.bind_some, m23_l0_eq _ [] (by simp; omega), Option.bind_some, List.nil_append, goods_idxs]
    · simp only [h2, decide_false, cond_true, cond_false]
      rfl
theorem m24_l0_eq (hN : 100 < N) (hw : 2 ≤ w ∧ w ≤ 32) (hl : fr.length ≤ 200) : ∀ (r : List (List Int)) (i k : Nat) (o : List Int), fr.drop i = r → r.length < k → o.length ≤ i →
    m24_l0 N k fr w s0 s1 s2 s3 fs o (i : Int) = some (o ++ idxs i (r.map (subf w s0 s1 s2 s3)))
  | [], i, k, o, h, hk, ho => by
    obtain ⟨k, rfl⟩ : ∃ q, k = q + 1 := ⟨k - 1, by simp at hk; omega⟩
    simp only [m24_l0, ge_drop h, cond_false, List.map_nil, idxs, List.append_nil]
  | x :: r, i, k, o, h, hk, ho => by
    obtain ⟨k, rfl⟩ : ∃ q, k = q + 1 := ⟨k - 1, by simp at hk; omega⟩
    have hlt := drop_lt h
    have hroom : ∀ z : Int, room (o ++ [z]).length 8 = true := fun z => room_small (by simp; omega) (by omega)
    have ih := fun o ho => m24_l0_eq hN hw hl r (i + 1) k o (succ_drop h) (by simp at hk; omega) ho
    simp only [m24_l0, lt_drop h, inB_drop h, rd_drop h, wrap_drop h (show fr.length < 4611686018427387904 by omega), cond_true, hroom, m73_eq hN hw, Option.bind_some, List.map_cons, idxs]
    cases decide ((0 : Int) ≤ subf w s0 s1 s2 s3 x) with
    | true =>
      simp only [cond_true]
      rw [ih (o ++ [(i : Int)]) (by simp; omega)]
      simp
    | false =>
      simp only [cond_false]
      exact ih o (by omega)
theorem m24_eq (hN : 300 < N) (hf : ∀ f, f ∈ fs → I64 f.2.2.1) : m24 N w s0 s1 s2 s3 fs fr = some (goodR w s0 s1 s2 s3 fs fr) := by
  unfold m24 goodR
  rw [m68_eq (by omega) hf, Option.bind_some]
  cases h1 : layOK w s0 s1 s2 s3 fs with
  | false => rfl
  | true =>
    by_cases h2 : fr.length ≤ 200
    · have := m24_l0_eq (N := N) (s0 := s0) (s1 := s1) (s2 := s2) (s3 := s3) (fs := fs) (by omega) (layOK_w h1) h2 fr 0 N [] rfl (by omega) (Nat.le_refl _)
      rw [show ((0 : Nat) : Int) = 0 from rfl] at this
      have e : decide ((0 : Int) ≠ 0) = false := rfl
      simp only [h2, decide_true, cond_true, e, cond_false, this, Option.bind_some, List.nil_append]
    · simp only [h2, decide_false, cond_true, cond_false]
      rfl
theorem m29_l0_eq {l l' : List Int} (hl : l.length < 4611686018427387904) (he : l'.length = l.length) : ∀ (r r' : List Int) (i k : Nat), l.drop i = r → l'.drop i = r' → r.length < k → m29_l0 N k l l' (i : Int) = some (bif decide (r = r') then .inr () else .inl false)
  | [], r', i, k, h, h', hk => by
    obtain ⟨k, rfl⟩ : ∃ q, k = q + 1 := ⟨k - 1, by simp at hk; omega⟩
    have := congrArg List.length h
    simp at this
    have : r' = [] := by rw [← h']; exact List.drop_eq_nil_of_le (by omega)
    simp only [m29_l0, ge_drop h, cond_false, this, decide_true, cond_true]
  | x :: r, r', i, k, h, h', hk => by
    obtain ⟨k, rfl⟩ : ∃ q, k = q + 1 := ⟨k - 1, by simp at hk; omega⟩
    have hlt := drop_lt h
    cases r' with
    | nil =>
      have := congrArg List.length h'
      simp at this
      omega
    | cons y q =>
      have ih := m29_l0_eq hl he r q (i + 1) k (succ_drop h) (succ_drop h') (by simp at hk; omega)
      simp only [m29_l0, lt_drop h, inB_drop h, rd_drop h, inB_drop h', rd_drop h', wrap_drop h hl, cond_true, ih]
      by_cases c : x = y
      · simp [c]
      · simp [c]
theorem m29_eq {l l' : List Int} (hl : l.length < 4611686018427387904) (hN : l.length < N) : m29 N l l' = some (decide (l = l')) := by
  unfold m29
  by_cases c : l.length = l'.length
  · have e : decide (((l.length : Nat) : Int) ≠ ((l'.length : Nat) : Int)) = false := by simp [c]
    have := m29_l0_eq (N := N) hl c.symm l l' 0 N rfl rfl hN
    rw [show ((0 : Nat) : Int) = 0 from rfl] at this
    rw [e, cond_false, this, Option.bind_some]
    cases decide (l = l') <;> rfl
  · have e : decide (((l.length : Nat) : Int) ≠ ((l'.length : Nat) : Int)) = true := by simp; omega
    have e2 : decide (l = l') = false := by
      simp
      intro h
      exact c (by rw [h])
    rw [e, e2]
    rfl
end
end Go.VM

set_option linter.unusedVariables false
set_option linter.unusedSimpArgs false
namespace Go.VM
section
variable {N : Nat} {w s0 s1 s2 s3 b : Int} {fs : List D2} {fr : List (List Int)} {sub : List Int}
def slip (x y : D6) : Bool := decide (¬ (4 : Int) ∣ (y.2 - x.2) - (y.1 - x.1))
def slipsL : D6 → List D6 → List Int
  | _, [] => []
  | x, y :: r => bif slip x y then y.1 :: slipsL y r else slipsL y r
def slipsG : List D6 → List Int
  | [] => []
  | x :: r => slipsL x r
theorem slipsL_len : ∀ (r : List D6) (x : D6), (slipsL x r).length ≤ r.length
  | [], x => Nat.le_refl _
  | y :: r, x => by
    have := slipsL_len r y
    simp only [slipsL]
    cases slip x y <;> simp <;> omega
def slipsR (w s0 s1 s2 s3 : Int) (fs : List D2) (fr : List (List Int)) : List Int × Int :=
  bif layOK w s0 s1 s2 s3 fs then (bif decide (fr.length ≤ 200) then (slipsG (goods 0 (fr.map (subf w s0 s1 s2 s3))), 0) else ([], 2)) else ([], 120)
theorem goods_bd : ∀ (r : List (List Int)) (i : Nat) (y : D6), y ∈ goods i (r.map (subf w s0 s1 s2 s3)) → (i : Int) ≤ y.1 ∧ y.1 < ((i + r.length : Nat) : Int) ∧ 0 ≤ y.2 ∧ y.2 < 4
  | [], i, y, h => by simp [goods] at h
  | x :: r, i, y, h => by
    simp only [List.map_cons, goods] at h
    have ih := goods_bd r (i + 1) y
    have hl := subf_lt (w := w) (s0 := s0) (s1 := s1) (s2 := s2) (s3 := s3) x
    cases hs : decide ((0 : Int) ≤ subf w s0 s1 s2 s3 x) with
    | true =>
      rw [hs, cond_true] at h
      rcases List.mem_cons.1 h with rfl | h
      · have := of_decide_eq_true hs
        simp only [List.length_cons]
        omega
      · have := ih h
        simp only [List.length_cons]
        omega
    | false =>
      rw [hs, cond_false] at h
      have := ih h
      simp only [List.length_cons]
      omega
theorem goods_at : ∀ (r : List (List Int)) (i : Nat), fr.drop i = r → ∀ y, y ∈ goods i (r.map (subf w s0 s1 s2 s3)) → inB y.1 fr.length = true ∧ subf w s0 s1 s2 s3 (rd ([] : List Int) fr y.1) = y.2
  | [], i, h, y, hy => by simp [goods] at hy
  | x :: r, i, h, y, hy => by
    simp only [List.map_cons, goods] at hy
    have ih := goods_at r (i + 1) (succ_drop h) y
    cases hs : decide ((0 : Int) ≤ subf w s0 s1 s2 s3 x) with
    | true =>
      rw [hs, cond_true] at hy
      rcases List.mem_cons.1 hy with rfl | hy
      · exact ⟨inB_drop h, by rw [rd_drop h]⟩
      · exact ih hy
    | false =>
      rw [hs, cond_false] at hy
      exact ih hy
/-- In order: each is later than the one before. -/
theorem goods_inc : ∀ (r : List (List Int)) (i j : Nat) (x y : D6) (q : List D6), (goods i (r.map (subf w s0 s1 s2 s3))).drop j = x :: y :: q → x.1 < y.1
  | [], i, j, x, y, q, h => by simp [goods] at h
  | z :: r, i, j, x, y, q, h => by
    simp only [List.map_cons, goods] at h
    cases hs : decide ((0 : Int) ≤ subf w s0 s1 s2 s3 z) with
    | true =>
      rw [hs, cond_true] at h
      cases j with
      | zero =>
        simp only [List.drop_zero, List.cons.injEq] at h
        obtain ⟨rfl, h⟩ := h
        have := (goods_bd r (i + 1) y (by rw [h]; simp)).1
        simp only
        omega
      | succ j => exact goods_inc r (i + 1) j x y q (by simpa using h)
    | false =>
      rw [hs, cond_false] at h
      exact goods_inc r (i + 1) j x y q h
theorem m25_l0_eq {c0 c1 c2 c3 c4 : Int} {gs : List D2} {fr' : List (List Int)} : ∀ (ys : List D6) (a : List Int) (x : D6), a.length + ys.length < 1000 → (0 ≤ x.1 ∧ x.1 < 100000 ∧ 0 ≤ x.2 ∧ x.2 < 4) → (∀ y, y ∈ ys → 0 ≤ y.1 ∧ y.1 < 100000 ∧ 0 ≤ y.2 ∧ y.2 < 4) →
    ∃ z, m25_l0 N ys a x.1 x.2 c0 c1 c2 c3 c4 gs fr' sub = some (a ++ slipsL x ys, z)
  | [], a, x, h, hx, hy => ⟨_, by simp only [m25_l0, slipsL, List.append_nil]; rfl⟩
  | y :: r, a, x, h, hx, hy => by
    simp only [List.length_cons] at h
    have hy0 := hy y (by simp)
    have ih := fun a h => m25_l0_eq (c0 := c0) (c1 := c1) (c2 := c2) (c3 := c3) (c4 := c4) (gs := gs) (fr' := fr') r a y h hy0 fun y h => hy y (by simp [h])
    have e1 : decide ((0 : Int) ≤ x.1) = true := decide_eq_true hx.1
    have e2 : Go.IntKind.wrap .i64 (Go.IntKind.wrap .i64 (y.2 - x.2) - Go.IntKind.wrap .i64 (y.1 - x.1)) = (y.2 - x.2) - (y.1 - x.1) := by
      rw [wrap64 (x := y.2 - x.2) (by omega) (by omega), wrap64 (x := y.1 - x.1) (by omega) (by omega), wrap64 (by omega) (by omega)]
    have e3 : decide (Int.tmod ((y.2 - x.2) - (y.1 - x.1)) 4 ≠ 0) = slip x y := by
      unfold slip
      rw [Bool.eq_iff_iff]
      simp only [decide_eq_true_eq, ne_eq, Int.dvd_iff_tmod_eq_zero]
    have hroom : room (a ++ [y.1]).length 8 = true := room_small (by simp; omega) (by omega)
    simp only [m25_l0, e1, cond_true, e2, e3, hroom, slipsL]
    cases slip x y with
    | true =>
      obtain ⟨z, hz⟩ := ih (a ++ [y.1]) (by simp; omega)
      exact ⟨z, by simpa using hz⟩
    | false =>
      obtain ⟨z, hz⟩ := ih a (by omega)
      exact ⟨z, by simpa using hz⟩
theorem m25_eq (hN : 300 < N) (hf : ∀ f, f ∈ fs → I64 f.2.2.1) : m25 N w s0 s1 s2 s3 fs fr = some (slipsR w s0 s1 s2 s3 fs fr) := by
  unfold m25 slipsR
  rw [m71_eq hN hf, Option.bind_some]
  unfold tapeR
  cases h1 : layOK w s0 s1 s2 s3 fs with
  | false => rfl
  | true =>
    by_cases h2 : fr.length ≤ 200
    · simp only [h2, decide_true, cond_true]
      have e : decide ((0 : Int) ≠ 0) = false := rfl
      rw [e]
      simp only [cond_false]
      have hlen := goods_len (fr.map (subf w s0 s1 s2 s3)) 0
      simp only [List.length_map] at hlen
      rw [i72_eq (by simp; omega) (by simp; omega), Option.bind_some]
      have hb := goods_bd (w := w) (s0 := s0) (s1 := s1) (s2 := s2) (s3 := s3) fr 0
      generalize goods 0 (fr.map (subf w s0 s1 s2 s3)) = l at hlen hb ⊢
      cases l with
      | nil => rfl
      | cons x r =>
        have hb' : ∀ y, y ∈ x :: r → 0 ≤ y.1 ∧ y.1 < 100000 ∧ 0 ≤ y.2 ∧ y.2 < 4 := fun y hy => by have := hb y hy; omega
        simp only [List.length_cons] at hlen
        obtain ⟨z, hz⟩ := m25_l0_eq (N := N) (sub := fr.map (subf w s0 s1 s2 s3)) (c0 := w) (c1 := s0) (c2 := s1) (c3 := s2) (c4 := s3) (gs := fs) (fr' := fr) r [] x (by simp; omega) (hb' x (by simp)) fun y h => hb' y (by simp [h])
        have e1 : decide ((0 : Int) ≤ -1) = false := by decide
        simp only [m25_l0, e1, cond_false, hz, Option.bind_some, List.nil_append, slipsG]
    · simp only [h2, decide_false, cond_true, cond_false]
      rfl
end
end Go.VM

set_option linter.unusedVariables false
set_option linter.unusedSimpArgs false
namespace Go.VM
section
variable {N : Nat} {w s0 s1 s2 s3 b : Int} {fs : List D2} {fr : List (List Int)} {sub : List Int}
theorem slip_ref {x y : D6} (h1 : x.1 < y.1) (hx : 0 ≤ x.2 ∧ x.2 < 4) (hy : 0 ≤ y.2 ∧ y.2 < 4) : decide (Int.tmod ((y.2 - x.2) + 4) 4 ≠ Int.tmod (y.1 - x.1) 4) = slip x y := by
  unfold slip
  rw [Int.tmod_eq_emod_of_nonneg (by omega), Int.tmod_eq_emod_of_nonneg (by omega), Bool.eq_iff_iff]
  simp only [decide_eq_true_eq]
  omega
theorem m26_l0_eq (hN : 100 < N) (hw : 2 ≤ w ∧ w ≤ 32) (hl : fr.length ≤ 200) {l : List D6} (hll : l.length ≤ 200) (hb : ∀ y, y ∈ l → (0 ≤ y.1 ∧ y.1 < 200 ∧ 0 ≤ y.2 ∧ y.2 < 4) ∧ inB y.1 fr.length = true ∧ subf w s0 s1 s2 s3 (rd ([] : List Int) fr y.1) = y.2)
    (hi : ∀ j x y q, l.drop j = x :: y :: q → x.1 < y.1) : ∀ (r : List D6) (x : D6) (i k : Nat) (o : List Int), l.drop i = x :: r → r.length < k → o.length ≤ i →
    m26_l0 N k fr w s0 s1 s2 s3 fs (l.map (·.1)) o ((i + 1 : Nat) : Int) = some (o ++ slipsL x r)
  | [], x, i, k, o, h, hk, ho => by
    obtain ⟨k, rfl⟩ : ∃ q, k = q + 1 := ⟨k - 1, by simp at hk; omega⟩
    have : (l.map (·.1)).drop (i + 1) = ([] : List Int) := by rw [← List.map_drop, succ_drop h]; rfl
    simp only [m26_l0, ge_drop this, cond_false, slipsL, List.append_nil]
  | y :: r, x, i, k, o, h, hk, ho => by
    obtain ⟨k, rfl⟩ : ∃ q, k = q + 1 := ⟨k - 1, by simp at hk; omega⟩
    have hlt := drop_lt (succ_drop h)
    have d0 : (l.map (·.1)).drop i = x.1 :: y.1 :: r.map (·.1) := by rw [← List.map_drop, h]; rfl
    have d1 : (l.map (·.1)).drop (i + 1) = y.1 :: r.map (·.1) := succ_drop d0
    have hx := hb x (List.mem_of_getElem? (drop_get h))
    have hy := hb y (List.mem_of_getElem? (drop_get (succ_drop h)))
    have hxy := hi i x y r h
    have hlen : (l.map (·.1)).length < 4611686018427387904 := by simp; omega
    have ih := fun o ho => m26_l0_eq hN hw hl hll hb hi r y (i + 1) k o (succ_drop h) (by simp at hk; omega) ho
    have e1 : Go.IntKind.wrap .i64 (((i + 1 : Nat) : Int) - 1) = (i : Int) := by rw [wrap64 (by omega) (by omega)]; omega
    have e2 : Go.IntKind.wrap .i64 (Go.IntKind.wrap .i64 (y.2 - x.2) + 4) = (y.2 - x.2) + 4 := by
      rw [wrap64 (x := y.2 - x.2) (by omega) (by omega), wrap64 (by omega) (by omega)]
    have e3 : Go.IntKind.wrap .i64 (y.1 - x.1) = y.1 - x.1 := wrap64 (by omega) (by omega)
    have hroom : room (o ++ [y.1]).length 8 = true := room_small (by simp; omega) (by omega)
    simp only [m26_l0, lt_drop d1, inB_drop d1, rd_drop d1, wrap_drop d1 hlen, e1, inB_drop d0, rd_drop d0, hx.2.1, hy.2.1, cond_true, m73_eq hN hw, Option.bind_some, hx.2.2, hy.2.2, e2, e3, slip_ref hxy ⟨hx.1.2.2.1, hx.1.2.2.2⟩ ⟨hy.1.2.2.1, hy.1.2.2.2⟩, hroom, slipsL]
    cases slip x y with
    | true =>
      simp only [cond_true]
      rw [ih (o ++ [y.1]) (by simp; omega)]
      simp
    | false =>
      simp only [cond_false]
      exact ih o (by omega)
theorem m26_eq (hN : 300 < N) (hf : ∀ f, f ∈ fs → I64 f.2.2.1) : m26 N w s0 s1 s2 s3 fs fr = some (slipsR w s0 s1 s2 s3 fs fr) := by
  unfold m26 slipsR
  rw [m24_eq hN hf, Option.bind_some]
  unfold goodR
  cases h1 : layOK w s0 s1 s2 s3 fs with
  | false => rfl
  | true =>
    by_cases h2 : fr.length ≤ 200
    · have e : decide ((0 : Int) ≠ 0) = false := rfl
      simp only [h2, decide_true, cond_true, e, cond_false]
      rw [← goods_idxs]
      have hlen := goods_len (fr.map (subf w s0 s1 s2 s3)) 0
      simp only [List.length_map] at hlen
      have hb := goods_bd (w := w) (s0 := s0) (s1 := s1) (s2 := s2) (s3 := s3) fr 0
      have hat := goods_at (w := w) (s0 := s0) (s1 := s1) (s2 := s2) (s3 := s3) fr 0 rfl
      have hinc := goods_inc (w := w) (s0 := s0) (s1 := s1) (s2 := s2) (s3 := s3) fr 0
      generalize goods 0 (fr.map (subf w s0 s1 s2 s3)) = l at hlen hb hat hinc ⊢
      cases l with
      | nil =>
        obtain ⟨k, rfl⟩ : ∃ k, N = k + 1 := ⟨N - 1, by omega⟩
        rfl
      | cons x r =>
        have := m26_l0_eq (N := N) (s0 := s0) (s1 := s1) (s2 := s2) (s3 := s3) (fs := fs) (by omega) (layOK_w h1) h2 (l := x :: r) (by omega) (fun y hy => ⟨by have := hb y hy; omega, hat y hy⟩) hinc r x 0 N [] rfl (by simp only [List.length_cons] at hlen; omega) (Nat.le_refl _)
        rw [show ((0 + 1 : Nat) : Int) = 1 from rfl] at this
        simp only [this, Option.bind_some, List.nil_append, slipsG]
    · simp only [h2, decide_false, cond_true, cond_false]
      rfl
theorem goodR_len (hl : fr.length ≤ 1000) : (goodR w s0 s1 s2 s3 fs fr).1.length ≤ 1000 := by
  unfold goodR
  have := idxs_len (fr.map (subf w s0 s1 s2 s3)) 0
  cases layOK w s0 s1 s2 s3 fs <;> cases decide (fr.length ≤ 200) <;> simp_all <;> omega
theorem slipsG_len (l : List D6) : (slipsG l).length ≤ l.length := by
  cases l with
  | nil => exact Nat.le_refl _
  | cons x r =>
    have := slipsL_len r x
    simp only [slipsG, List.length_cons]
    omega
theorem slipsR_len (hl : fr.length ≤ 1000) : (slipsR w s0 s1 s2 s3 fs fr).1.length ≤ 1000 := by
  unfold slipsR
  have := slipsG_len (goods 0 (fr.map (subf w s0 s1 s2 s3)))
  have := goods_len (fr.map (subf w s0 s1 s2 s3)) 0
  cases layOK w s0 s1 s2 s3 fs <;> cases decide (fr.length ≤ 200) <;> simp_all <;> omega
theorem m4_eq (hN : 1001 < N) (hf : ∀ f, f ∈ fs → I64 f.2.2.1) : m4 N w s0 s1 s2 s3 fs fr = some true := by
  unfold m4
  rw [m15_eq (by omega), Option.bind_some]
  cases hfar : farT fs fr with
  | true => simp only [cond_true, m16_eq (show 1000 < N by omega), Option.bind_some]
  | false =>
    obtain ⟨g1, g2, g3⟩ := farT_not hfar
    simp only [cond_false]
    rw [m17_eq (by omega) hfar, Option.bind_some]
    have l1 := goodR_len (w := w) (s0 := s0) (s1 := s1) (s2 := s2) (s3 := s3) (fs := fs) (fr := fr) (by omega)
    have l2 := slipsR_len (w := w) (s0 := s0) (s1 := s1) (s2 := s2) (s3 := s3) (fs := fs) (fr := fr) (by omega)
    simp only [m23_eq (show 300 < N by omega) hf, m24_eq (show 300 < N by omega) hf, m25_eq (show 300 < N by omega) hf, m26_eq (show 300 < N by omega) hf, m27_eq (show 100 < N by omega) hf, m28_eq (show 100 < N by omega) hf, Option.bind_some, m29_eq (show (goodR w s0 s1 s2 s3 fs fr).1.length < 4611686018427387904 by omega) (show (goodR w s0 s1 s2 s3 fs fr).1.length < N by omega), m29_eq (show (slipsR w s0 s1 s2 s3 fs fr).1.length < 4611686018427387904 by omega) (show (slipsR w s0 s1 s2 s3 fs fr).1.length < N by omega), decide_true, cond_true, m16_eq (show 1000 < N by omega)]
end
theorem pure4 (x : pt (tysL m4_a)) (hx : wfP (tysL m4_a) x) : ∃ N, (m4_s N).f x = some true := by
  refine ⟨1002, ?_⟩
  show m4 1002 _ _ _ _ _ _ _ = _
  exact m4_eq (by omega) (fields_i64 hx.2.2.2.2.2.1)
end Go.VM
