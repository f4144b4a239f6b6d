/- Part Q5 of a claim: a machine over the model on plain data, what it makes of the program, plain laws. -/
import Derived.Test.YtdelhhjhkjcpnaaQ4
import Derived.Test.YtdelhhjhkjcpnaaGd
set_option linter.unusedVariables false
set_option linter.unusedSimpArgs false
namespace Go.VM
/-- A condition at a value. -/
def cmpC (c : D9) (f : D2) (v : Int) : Bool := bif c.2.2 then decide (c.2.1 * f.2.2.2.2.2.1 ≤ v) else decide (v ≤ c.2.1 * f.2.2.2.2.2.1)
/-- The latest one of the last n of which there is one. -/
def lastC (g : Nat → Option Int) (p : Int → Bool) : Nat → Nat → Bool
  | 0, _ => false
  | n + 1, i => match g i with
    | some v => p v
    | none => match i with
      | 0 => false
      | i + 1 => lastC g p n i
theorem lastC_congr {g g' : Nat → Option Int} {p : Int → Bool} : ∀ (n t : Nat), (∀ j, j ≤ t → t < j + n → g j = g' j) → lastC g p n t = lastC g' p n t
  | 0, t, h => rfl
  | n + 1, t, h => by
    simp only [lastC]
    rw [h t (Nat.le_refl _) (by omega)]
    cases g' t with
    | some v => rfl
    | none =>
      cases t with
      | zero => rfl
      | succ t => exact lastC_congr n t fun j h1 h2 => h j (by omega) (by omega)
theorem lastC_find {g : Nat → Option Int} {p : Int → Bool} {i : Nat} {v : Int} (hi : g i = some v) : ∀ (n t : Nat), i ≤ t → t < i + n → (∀ j, i < j → j ≤ t → g j = none) → lastC g p n t = p v
  | 0, t, h1, h2, h => by omega
  | n + 1, t, h1, h2, h => by
    simp only [lastC]
    by_cases e : i = t
    · subst e
      rw [hi]
    · rw [h t (by omega) (Nat.le_refl _)]
      cases t with
      | zero => omega
      | succ t => exact lastC_find hi n t (by omega) (by omega) fun j h1 h2 => h j h1 (by omega)
theorem lastC_none {g : Nat → Option Int} {p : Int → Bool} : ∀ (n t : Nat), (∀ j, g j = none) → lastC g p n t = false
  | 0, t, h => rfl
  | n + 1, t, h => by
    simp only [lastC, h]
    cases t with
    | zero => rfl
    | succ t => exact lastC_none n t h
/-- A stretch of a row, set. -/
def setR (b : Bool) : Nat → Nat → List Bool → List Bool
  | _, 0, l => l
  | j, n + 1, l => setR b (j + 1) n (l.set j b)
theorem setR_len (b : Bool) : ∀ (n j : Nat) (l : List Bool), (setR b j n l).length = l.length
  | 0, j, l => rfl
  | n + 1, j, l => by rw [setR, setR_len b n]; simp
theorem setR_get (b : Bool) : ∀ (n j : Nat) (l : List Bool) (t : Nat), (setR b j n l)[t]? = if j ≤ t ∧ t < j + n ∧ t < l.length then some b else l[t]?
  | 0, j, l, t => by
    simp only [setR]
    rw [if_neg (by omega)]
  | n + 1, j, l, t => by
    rw [setR, setR_get b n, List.length_set, List.getElem?_set]
    by_cases e : j = t
    · subst e
      by_cases h : j < l.length
      · rw [if_neg (by omega), if_pos rfl, if_pos h, if_pos (by omega)]
      · rw [if_neg (by omega), if_pos rfl, if_neg h, if_neg (by omega)]
        rw [List.getElem?_eq_none (by omega)]
    · rw [if_neg e]
      by_cases h : j + 1 ≤ t ∧ t < j + 1 + n ∧ t < l.length
      · rw [if_pos h, if_pos (by omega)]
      · rw [if_neg h, if_neg (by omega)]
section
variable {N : Nat} {w s0 s1 s2 s3 b : Int} {fs : List D2} {fr : List (List Int)} {sub : List Int}
theorem m126_l1_eq {a0 a1 : Int} {a2 : Bool} {f g : D2} {t0 t1 t2 t3 t4 : Int} {gs : List D2} {fr' : List (List Int)} {sub' : List Int} {i : Nat} {is : Bool} (hi : i < 1000) (hE : 0 ≤ f.2.2.2.2.2.2.2.1 ∧ f.2.2.2.2.2.2.2.1 ≤ 4) : ∀ (n j k : Nat) (out : List Bool), n < k → out.length ≤ 1000 → j + n = min (i + f.2.2.2.2.2.2.2.1.toNat) out.length →
    m126_l1 N k a0 a1 a2 f.1 f.2.1 f.2.2.1 f.2.2.2.1 f.2.2.2.2.1 f.2.2.2.2.2.1 f.2.2.2.2.2.2.1 f.2.2.2.2.2.2.2.1 f.2.2.2.2.2.2.2.2 out (i : Int) is (j : Int) t0 t1 t2 t3 t4 gs fr' sub' g.1 g.2.1 g.2.2.1 g.2.2.2.1 g.2.2.2.2.1 g.2.2.2.2.2.1 g.2.2.2.2.2.2.1 g.2.2.2.2.2.2.2.1 g.2.2.2.2.2.2.2.2
      = some (a0, (a1, (a2, (f.1, (f.2.1, (f.2.2.1, (f.2.2.2.1, (f.2.2.2.2.1, (f.2.2.2.2.2.1, (f.2.2.2.2.2.2.1, (f.2.2.2.2.2.2.2.1, (f.2.2.2.2.2.2.2.2, (setR is j n out, (t0, (t1, (t2, (t3, (t4, (gs, (fr', (sub', g)))))))))))))))))))))
  | n, j, 0, out, hk, hl, he => by omega
  | n, j, k + 1, out, hk, hl, he => by
    have e0 : Go.IntKind.wrap .i64 ((i : Int) + f.2.2.2.2.2.2.2.1) = ((i + f.2.2.2.2.2.2.2.1.toNat : Nat) : Int) := by rw [wrap64 (by omega) (by omega)]; omega
    have e1 : mn ((i + f.2.2.2.2.2.2.2.1.toNat : Nat) : Int) ((out.length : Nat) : Int) = ((j + n : Nat) : Int) := by
      unfold mn
      rw [he]
      split <;> omega
    cases n with
    | zero =>
      have e2 : decide ((j : Int) < ((j + 0 : Nat) : Int)) = false := by simp
      simp only [m126_l1, e0, e1, e2, cond_false, setR]
    | succ n =>
      have e2 : decide ((j : Int) < ((j + (n + 1) : Nat) : Int)) = true := by simp; omega
      have e3 : inB (j : Int) out.length = true := inB_nat (by omega)
      have e4 : ∀ b : Bool, wr out (j : Int) b = out.set j b := fun b => by simp [wr]
      have ih := m126_l1_eq (a0 := a0) (a1 := a1) (a2 := a2) (f := f) (g := g) (t0 := t0) (t1 := t1) (t2 := t2) (t3 := t3) (t4 := t4) (gs := gs) (fr' := fr') (sub' := sub') (is := is) hi hE n (j + 1) k (out.set j is) (by omega) (by simpa using hl) (by simp only [List.length_set]; omega)
      simp only [m126_l1, e0, e1, e2, cond_true, e3, e4, wrap_nat (show j < 4611686018427387904 by omega), setR]
      cases is with
      | true => exact ih
      | false => exact ih
end
end Go.VM

set_option linter.unusedVariables false
set_option linter.unusedSimpArgs false
namespace Go.VM
section
variable {N : Nat} {w s0 s1 s2 s3 b : Int} {fs : List D2} {fr : List (List Int)} {sub : List Int}
/-- The sample of a frame. -/
def smpAt (w s0 s1 s2 s3 : Int) (fr : List (List Int)) (f : D2) (j : Nat) : Option Int := match fr[j]? with
  | some x => smp w s0 s1 s2 s3 f x
  | none => none
def smpC (w s0 s1 s2 s3 : Int) (fr : List (List Int)) (f : D2) (i j : Nat) : Option Int := bif decide (j < i) then smpAt w s0 s1 s2 s3 fr f j else none
/-- A condition holds in a frame. -/
def holdAt (w s0 s1 s2 s3 : Int) (fs : List D2) (fr : List (List Int)) (c : D9) (t : Nat) : Bool := lastC (smpAt w s0 s1 s2 s3 fr (rd z2 fs c.1)) (cmpC c (rd z2 fs c.1)) (rd z2 fs c.1).2.2.2.2.2.2.2.1.toNat t
def okC (c : D9) : Prop := -1000000 ≤ c.2.1 ∧ c.2.1 ≤ 1000000
theorem lim_wrap {f : D2} (hf : fOK w f = true) {c : D9} (hc : okC c) : Go.IntKind.wrap .i64 (c.2.1 * f.2.2.2.2.2.1) = c.2.1 * f.2.2.2.2.2.1 := by
  simp only [fOK, Bool.and_eq_true, within_iff, decide_eq_true_eq] at hf
  unfold okC at hc
  have := mul_bd (a := c.2.1) (b := f.2.2.2.2.2.1) (m := 1000000) (n := 1000) (by omega) (by omega)
  exact wrap64 (by omega) (by omega)
theorem m126_l0_eq {c : D9} {f g : D2} (hf : fOK w f = true) (hc : okC c) (hN : 1000 < N) (hl : fr.length ≤ 200) {t0 t1 t2 t3 t4 : Int} {gs : List D2} {fr' : List (List Int)} {sub' : List Int} : ∀ (r : List (List Int)) (i : Nat) (out : List Bool), fr.drop i = r → out.length = fr.length →
    (∀ t, t < fr.length → out[t]? = some (lastC (smpC w s0 s1 s2 s3 fr f i) (cmpC c f) f.2.2.2.2.2.2.2.1.toNat t)) →
    m126_l0 N (samples w s0 s1 s2 s3 f i r) c.1 c.2.1 c.2.2 f.1 f.2.1 f.2.2.1 f.2.2.2.1 f.2.2.2.2.1 f.2.2.2.2.2.1 f.2.2.2.2.2.2.1 f.2.2.2.2.2.2.2.1 f.2.2.2.2.2.2.2.2 out t0 t1 t2 t3 t4 gs fr' sub' g.1 g.2.1 g.2.2.1 g.2.2.2.1 g.2.2.2.2.1 g.2.2.2.2.2.1 g.2.2.2.2.2.2.1 g.2.2.2.2.2.2.2.1 g.2.2.2.2.2.2.2.2
      = some (c.1, (c.2.1, (c.2.2, (f.1, (f.2.1, (f.2.2.1, (f.2.2.2.1, (f.2.2.2.2.1, (f.2.2.2.2.2.1, (f.2.2.2.2.2.2.1, (f.2.2.2.2.2.2.2.1, (f.2.2.2.2.2.2.2.2, ((List.range fr.length).map (lastC (smpAt w s0 s1 s2 s3 fr f) (cmpC c f) f.2.2.2.2.2.2.2.1.toNat), (t0, (t1, (t2, (t3, (t4, (gs, (fr', (sub', g)))))))))))))))))))))
  | [], i, out, h, ho, hI => by
    have hi := congrArg List.length h
    simp at hi
    have : out = (List.range fr.length).map (lastC (smpAt w s0 s1 s2 s3 fr f) (cmpC c f) f.2.2.2.2.2.2.2.1.toNat) := by
      apply List.ext_getElem?
      intro t
      by_cases ht : t < fr.length
      · rw [hI t ht, List.getElem?_map, List.getElem?_range ht, Option.map_some]
        congr 1
        refine lastC_congr _ _ fun j h1 h2 => ?_
        have : decide (j < i) = true := decide_eq_true (by omega)
        simp [smpC, this]
      · rw [List.getElem?_eq_none (by omega), List.getElem?_eq_none (by simp; omega)]
    simp only [samples, m126_l0]
    rw [← this]
  | x :: r, i, out, h, ho, hI => by
    have hlt := drop_lt h
    have hev := fOK_every hf
    have hx : smpAt w s0 s1 s2 s3 fr f i = smp w s0 s1 s2 s3 f x := by simp [smpAt, drop_get h]
    have ih := fun out ho hI => m126_l0_eq (f := f) (g := g) hf hc hN hl (t0 := t0) (t1 := t1) (t2 := t2) (t3 := t3) (t4 := t4) (gs := gs) (fr' := fr') (sub' := sub') r (i + 1) out (succ_drop h) ho hI
    cases hs : smp w s0 s1 s2 s3 f x with
    | none =>
      simp only [samples, hs]
      refine ih out ho fun t ht => ?_
      rw [hI t ht]
      congr 1
      refine lastC_congr _ _ fun j h1 h2 => ?_
      by_cases e : j = i
      · subst e
        simp [smpC, hx, hs]
      · have : decide (j < i) = decide (j < i + 1) := by
          rw [Bool.eq_iff_iff]
          simp
          omega
        simp only [smpC, this]
    | some v =>
      simp only [samples, hs]
      obtain ⟨n, hn⟩ : ∃ n, i + n = min (i + f.2.2.2.2.2.2.2.1.toNat) out.length := ⟨min (i + f.2.2.2.2.2.2.2.1.toNat) out.length - i, by omega⟩
      have hl1 := fun is : Bool => m126_l1_eq (N := N) (a0 := c.1) (a1 := c.2.1) (a2 := c.2.2) (f := f) (g := g) (t0 := t0) (t1 := t1) (t2 := t2) (t3 := t3) (t4 := t4) (gs := gs) (fr' := fr') (sub' := sub') (i := i) (is := is) (by omega) (by omega) n i N out (by omega) (by omega) hn
      have step : m126_l0 N (((i : Int), v) :: samples w s0 s1 s2 s3 f (i + 1) r) c.1 c.2.1 c.2.2 f.1 f.2.1 f.2.2.1 f.2.2.2.1 f.2.2.2.2.1 f.2.2.2.2.2.1 f.2.2.2.2.2.2.1 f.2.2.2.2.2.2.2.1 f.2.2.2.2.2.2.2.2 out t0 t1 t2 t3 t4 gs fr' sub' g.1 g.2.1 g.2.2.1 g.2.2.2.1 g.2.2.2.2.1 g.2.2.2.2.2.1 g.2.2.2.2.2.2.1 g.2.2.2.2.2.2.2.1 g.2.2.2.2.2.2.2.2
          = m126_l0 N (samples w s0 s1 s2 s3 f (i + 1) r) c.1 c.2.1 c.2.2 f.1 f.2.1 f.2.2.1 f.2.2.2.1 f.2.2.2.2.1 f.2.2.2.2.2.1 f.2.2.2.2.2.2.1 f.2.2.2.2.2.2.2.1 f.2.2.2.2.2.2.2.2 (setR (cmpC c f v) i n out) t0 t1 t2 t3 t4 gs fr' sub' g.1 g.2.1 g.2.2.1 g.2.2.2.1 g.2.2.2.2.1 g.2.2.2.2.2.1 g.2.2.2.2.2.2.1 g.2.2.2.2.2.2.2.1 g.2.2.2.2.2.2.2.2 := by
        simp only [m126_l0, lim_wrap hf hc, hl1, Option.bind_some, cmpC]
        cases c.2.2 <;> cases decide (v ≤ c.2.1 * f.2.2.2.2.2.1) <;> cases decide (c.2.1 * f.2.2.2.2.2.1 ≤ v) <;> rfl
      rw [step]
      refine ih (setR (cmpC c f v) i n out) (by rw [setR_len]; exact ho) fun t ht => ?_
      rw [setR_get]
      by_cases hin : i ≤ t ∧ t < i + n ∧ t < out.length
      · rw [if_pos hin]
        congr 1
        refine (lastC_find (i := i) ?_ _ _ hin.1 (by omega) fun j h1 h2 => ?_).symm
        · simp [smpC, hx, hs]
        · have : decide (j < i + 1) = false := decide_eq_false (by omega)
          simp [smpC, this]
      · rw [if_neg hin, hI t ht]
        congr 1
        refine lastC_congr _ _ fun j h1 h2 => ?_
        have : decide (j < i) = decide (j < i + 1) := by
          rw [Bool.eq_iff_iff]
          simp
          omega
        simp only [smpC, this]
theorem m126_eq {c : D9} (hf : ∀ f, f ∈ fs → fOK w f = true) (hw : within c.1 0 ((fs.length : Int) - 1) = true) (hc : okC c) (hN : 1000 < N) (hl : fr.length ≤ 200) : m126 N w s0 s1 s2 s3 fs fr (fr.map (subf w s0 s1 s2 s3)) c.1 c.2.1 c.2.2 = some ((List.range fr.length).map (holdAt w s0 s1 s2 s3 fs fr c)) := by
  obtain ⟨f, h1, h2, h3⟩ := within_field hw
  have hfo := hf f (List.mem_of_getElem? h1)
  have hev := fOK_every hfo
  unfold m126
  have d1 : decide ((0 : Int) ≤ ((fr.length : Nat) : Int)) = true := decide_eq_true (by omega)
  have d2 : room (Int.toNat ((fr.length : Nat) : Int)) 1 = true := room_small (by omega) (by omega)
  simp only [h2, cond_true, decide_true, d1, d2, Bool.and_self, m67_eq h2, Option.bind_some, h3, i113_eq hfo hl (show 300 < N by omega)]
  have := m126_l0_eq (N := N) (s0 := s0) (s1 := s1) (s2 := s2) (s3 := s3) (fr := fr) (f := f) (g := f) hfo hc hN hl (t0 := w) (t1 := s0) (t2 := s1) (t3 := s2) (t4 := s3) (gs := fs) (fr' := fr) (sub' := fr.map (subf w s0 s1 s2 s3)) fr 0 (List.replicate fr.length false) rfl (by simp) (fun t ht => by
    rw [lastC_none _ _ (fun j => by simp [smpC]), List.getElem?_replicate, if_pos ht])
  rw [show Int.toNat ((fr.length : Nat) : Int) = fr.length from rfl, this, Option.bind_some]
  have e : holdAt w s0 s1 s2 s3 fs fr c = lastC (smpAt w s0 s1 s2 s3 fr f) (cmpC c f) f.2.2.2.2.2.2.2.1.toNat := by
    funext t
    simp only [holdAt, h3]
  rw [e]
end
end Go.VM

set_option linter.unusedVariables false
set_option linter.unusedSimpArgs false
namespace Go.VM
def rowP (n : Nat) (P : Nat → Bool) : List Bool := (List.range n).map P ++ [false]
theorem rowP_get (n : Nat) (P : Nat → Bool) (t : Nat) : (rowP n P)[t]? = if t < n then some (P t) else if t = n then some false else none := by
  unfold rowP
  by_cases h : t < n
  · rw [if_pos h, List.getElem?_append_left (by simpa using h), List.getElem?_map, List.getElem?_range h, Option.map_some]
  · rw [if_neg h, List.getElem?_append_right (by simp; omega)]
    simp only [List.length_map, List.length_range]
    by_cases e : t = n
    · subst e
      simp
    · rw [if_neg e, List.getElem?_eq_none (by simp; omega)]
theorem rowP_len (n : Nat) (P : Nat → Bool) : (rowP n P).length = n + 1 := by simp [rowP]
theorem rowP_congr {n : Nat} {P Q : Nat → Bool} (h : ∀ t, t < n → P t = Q t) : rowP n P = rowP n Q := by
  apply List.ext_getElem?
  intro t
  rw [rowP_get, rowP_get]
  by_cases ht : t < n
  · rw [if_pos ht, if_pos ht, h t ht]
  · rw [if_neg ht, if_neg ht]
theorem rowP_set {n : Nat} {P : Nat → Bool} {i : Nat} (b : Bool) (h : i < n) : wr (rowP n P) (i : Int) b = rowP n (fun t => if t = i then b else P t) := by
  apply List.ext_getElem?
  intro t
  rw [wr, Int.toNat_natCast, List.getElem?_set, rowP_get, rowP_get, rowP_len]
  by_cases e : i = t
  · subst e
    rw [if_pos rfl, if_pos (by omega), if_pos h, if_pos rfl]
  · rw [if_neg e]
    have e' : ¬ t = i := fun h => e h.symm
    simp only [e', if_false]
theorem rowP_rd {n : Nat} {P : Nat → Bool} {i : Nat} (h : i < n) : rd false (rowP n P) (i : Int) = P i := by
  simp [rd, List.getD, rowP_get, h]
theorem rowP_in {n : Nat} {P : Nat → Bool} {i : Nat} (h : i < n + 1) : inB (i : Int) (rowP n P).length = true := inB_nat (by rw [rowP_len]; exact h)
theorem rep_row (n : Nat) : List.replicate (n + 1) false = rowP n (fun t => decide (t < 0)) := by
  apply List.ext_getElem?
  intro t
  rw [rowP_get, List.getElem?_replicate]
  by_cases h : t < n
  · rw [if_pos h, if_pos (by omega)]
    simp
  · rw [if_neg h]
    by_cases e : t = n
    · rw [if_pos e, if_pos (by omega)]
    · rw [if_neg e, if_neg (by omega)]
/-- The stretches, as the program finds them. -/
def spansP (hold : Int) : Nat → Nat → List Bool → List D6
  | _, _, [] => []
  | i, first, b :: r => bif b then spansP hold (i + 1) first r else (bif decide (hold ≤ (i : Int) - (first : Int)) then ((first : Int), (i : Int) - 1) :: spansP hold (i + 1) (i + 1) r else spansP hold (i + 1) (i + 1) r)
section
variable {N : Nat} {w s0 s1 s2 s3 b : Int} {fs : List D2} {fr : List (List Int)} {sub : List Int}
theorem m94_l0_eq {cs : List D9} {hold : Int} {out : List D6} {n : Nat} (hn : n ≤ 200) : ∀ (d i k : Nat), i + d = n → d < k →
    m94_l0 N k w s0 s1 s2 s3 fs fr sub cs hold out (rowP n (fun t => decide (t < i))) (n : Int) (i : Int) = some (w, (s0, (s1, (s2, (s3, (fs, (fr, (sub, (cs, (hold, (out, rowP n (fun t => true))))))))))))
  | d, i, 0, h, hk => by omega
  | 0, i, k + 1, h, hk => by
    have e : decide ((i : Int) < (n : Int)) = false := by simp; omega
    simp only [m94_l0, e, cond_false]
    rw [rowP_congr (Q := fun t => true) (fun t ht => decide_eq_true (by omega))]
  | d + 1, i, k + 1, h, hk => by
    have e : decide ((i : Int) < (n : Int)) = true := by simp; omega
    simp only [m94_l0, e, cond_true, rowP_in (show i < n + 1 by omega), rowP_set true (show i < n by omega), wrap_nat (show i < 4611686018427387904 by omega)]
    rw [rowP_congr (Q := fun t => decide (t < i + 1)) (fun t ht => by
      by_cases c : t = i
      · simp [c]
      · simp only [c, if_false]
        rw [Bool.eq_iff_iff]
        simp
        omega)]
    exact m94_l0_eq hn d (i + 1) k (by omega) (by omega)
theorem m94_l2_eq {cs cs' : List D9} {hold : Int} {out : List D6} {n : Nat} (hn : n ≤ 200) {x y : Int} {P h : Nat → Bool} : ∀ (d i k : Nat), i + d = n → d < k →
    m94_l2 N k w s0 s1 s2 s3 fs fr sub cs hold out (rowP n (fun t => bif decide (t < i) then P t && h t else P t)) cs' x y ((List.range n).map h) (n : Int) (i : Int) = some (w, (s0, (s1, (s2, (s3, (fs, (fr, (sub, (cs, (hold, (out, (rowP n (fun t => P t && h t), (cs', (x, y))))))))))))))
  | d, i, 0, h, hk => by omega
  | 0, i, k + 1, h, hk => by
    have e : decide ((i : Int) < (n : Int)) = false := by simp; omega
    simp only [m94_l2, e, cond_false]
    rw [rowP_congr (Q := fun t => P t && _) (fun t ht => by rw [decide_eq_true (show t < i by omega), cond_true])]
  | d + 1, i, k + 1, hd, hk => by
    have e : decide ((i : Int) < (n : Int)) = true := by simp; omega
    have e1 : inB (i : Int) ((List.range n).map h).length = true := inB_nat (by simp; omega)
    have e2 : rd false ((List.range n).map h) (i : Int) = h i := by
      simp [rd, List.getD, List.getElem?_range (show i < n by omega)]
    have e3 : decide (i < i) = false := by simp
    have ih := m94_l2_eq (cs := cs) (cs' := cs') (hold := hold) (out := out) hn (x := x) (y := y) (P := P) (h := h) d (i + 1) k (by omega) (by omega)
    have hset : wr (rowP n (fun t => bif decide (t < i) then P t && h t else P t)) (i : Int) (P i && h i) = rowP n (fun t => bif decide (t < i + 1) then P t && h t else P t) := by
      rw [rowP_set _ (show i < n by omega)]
      refine rowP_congr fun t ht => ?_
      by_cases c : t = i
      · subst c
        simp
      · simp only [c, if_false]
        have : decide (t < i) = decide (t < i + 1) := by
          rw [Bool.eq_iff_iff]
          simp
          omega
        rw [this]
    have hi1 : inB (i : Int) (rowP n (fun t => bif decide (t < i) then P t && h t else P t)).length = true := rowP_in (by omega)
    have hr1 : rd false (rowP n (fun t => bif decide (t < i) then P t && h t else P t)) (i : Int) = P i := by
      rw [rowP_rd (show i < n by omega), e3, cond_false]
    simp only [m94_l2, e, cond_true, e1, e2, hi1, hr1, wrap_nat (show i < 4611686018427387904 by omega)]
    cases hp : P i <;> cases hh : h i <;> rw [hp, hh] at hset <;> simp only [cond_true, cond_false, Bool.and_true, Bool.and_false] at hset ⊢ <;> rw [hset] <;> exact ih
theorem m94_l1_eq {cs : List D9} {hold : Int} {out : List D6} (hf : ∀ f, f ∈ fs → fOK w f = true) (hN : 1000 < N) (hl : fr.length ≤ 200) (hcs : ∀ c, c ∈ cs → within c.1 0 ((fs.length : Int) - 1) = true ∧ okC c) (hlen : cs.length ≤ 100) : ∀ (r : List D9) (i k : Nat) (P : Nat → Bool), cs.drop i = r → r.length < k →
    m94_l1 N k w s0 s1 s2 s3 fs fr (fr.map (subf w s0 s1 s2 s3)) cs hold out (rowP fr.length P) cs ((cs.length : Nat) : Int) (i : Int) = some (cs, (hold, (out, rowP fr.length (fun t => P t && r.all fun c => holdAt w s0 s1 s2 s3 fs fr c t))))
  | [], i, k, P, h, hk => by
    obtain ⟨k, rfl⟩ : ∃ q, k = q + 1 := ⟨k - 1, by simp at hk; omega⟩
    simp only [m94_l1, ge_drop h, cond_false, List.all_nil, Bool.and_true]
  | c :: r, i, k, P, h, hk => by
    obtain ⟨k, rfl⟩ : ∃ q, k = q + 1 := ⟨k - 1, by simp at hk; omega⟩
    obtain ⟨c1, c2⟩ := hcs c (List.mem_of_getElem? (drop_get h))
    have ih := fun P => m94_l1_eq (hold := hold) (out := out) hf hN hl hcs hlen r (i + 1) k P (succ_drop h) (by simp at hk; omega)
    have h2 := m94_l2_eq (N := N) (w := w) (s0 := s0) (s1 := s1) (s2 := s2) (s3 := s3) (fs := fs) (fr := fr) (sub := fr.map (subf w s0 s1 s2 s3)) (cs := cs) (cs' := cs) (hold := hold) (out := out) hl (x := ((cs.length : Nat) : Int)) (y := (i : Int)) (P := P) (h := holdAt w s0 s1 s2 s3 fs fr c) fr.length 0 N (by omega) (by omega)
    rw [show ((0 : Nat) : Int) = 0 from rfl] at h2
    rw [rowP_congr (Q := P) (fun t ht => by simp)] at h2
    have hlm : ((List.range fr.length).map (holdAt w s0 s1 s2 s3 fs fr c)).length = fr.length := by simp
    simp only [m94_l1, lt_drop h, inB_drop h, rd_drop h, wrap_drop h (show cs.length < 4611686018427387904 by omega), cond_true, m126_eq hf c1 c2 hN hl, Option.bind_some, hlm, h2]
    rw [ih]
    simp only [List.all_cons, Bool.and_assoc]
theorem m94_l3_eq {cs : List D9} {hold : Int} {A : List Bool} (hA : A.length ≤ 300) : ∀ (r : List Bool) (i first k : Nat) (out : List D6), A.drop i = r → r.length < k → first ≤ i → out.length ≤ i →
    m94_l3 N k cs hold out (first : Int) A ((A.length : Nat) : Int) (i : Int) = some (out ++ spansP hold i first r)
  | [], i, first, k, out, h, hk, hfi, ho => by
    obtain ⟨k, rfl⟩ : ∃ q, k = q + 1 := ⟨k - 1, by simp at hk; omega⟩
    simp only [m94_l3, ge_drop h, cond_false, spansP, List.append_nil]
  | b :: r, i, first, k, out, h, hk, hfi, ho => by
    obtain ⟨k, rfl⟩ : ∃ q, k = q + 1 := ⟨k - 1, by simp at hk; omega⟩
    have hlt := drop_lt h
    have ih := fun first out h1 h2 => m94_l3_eq (cs := cs) (hold := hold) hA r (i + 1) first k out (succ_drop h) (by simp at hk; omega) h1 h2
    have e1 : Go.IntKind.wrap .i64 ((i : Int) - (first : Int)) = (i : Int) - (first : Int) := wrap64 (by omega) (by omega)
    have e2 : Go.IntKind.wrap .i64 ((i : Int) - 1) = (i : Int) - 1 := wrap64 (by omega) (by omega)
    have hroom : room (out ++ [((first : Int), (i : Int) - 1)]).length 16 = true := room_small (by simp; omega) (by omega)
    simp only [m94_l3, lt_drop h, inB_drop h, rd_drop h, wrap_drop h (show A.length < 4611686018427387904 by omega), cond_true, e1, e2, hroom, spansP]
    cases b with
    | true => exact ih first out (by omega) (by omega)
    | false =>
      simp only [cond_false]
      cases decide (hold ≤ (i : Int) - (first : Int)) with
      | true =>
        simp only [cond_true]
        rw [ih (i + 1) _ (by omega) (by simp; omega)]
        simp
      | false =>
        simp only [cond_false]
        exact ih (i + 1) out (by omega) (by omega)
def evP (w s0 s1 s2 s3 : Int) (fs : List D2) (fr : List (List Int)) (cs : List D9) : List Bool := rowP fr.length (fun t => cs.all fun c => holdAt w s0 s1 s2 s3 fs fr c t)
theorem m94_eq {cs : List D9} {hold : Int} (hf : ∀ f, f ∈ fs → fOK w f = true) (hN : 1000 < N) (hl : fr.length ≤ 200) (hcs : ∀ c, c ∈ cs → within c.1 0 ((fs.length : Int) - 1) = true ∧ okC c) (hlen : cs.length ≤ 100) :
    m94 N w s0 s1 s2 s3 fs fr (fr.map (subf w s0 s1 s2 s3)) cs hold = some (spansP hold 0 0 (evP w s0 s1 s2 s3 fs fr cs)) := by
  unfold m94
  have e1 : Go.IntKind.wrap .i64 (((fr.length : Nat) : Int) + 1) = ((fr.length + 1 : Nat) : Int) := wrap_nat (by omega)
  have d1 : decide ((0 : Int) ≤ ((fr.length + 1 : Nat) : Int)) = true := decide_eq_true (by omega)
  have d2 : room (fr.length + 1) 1 = true := room_small (by omega) (by omega)
  have h0 := m94_l0_eq (N := N) (w := w) (s0 := s0) (s1 := s1) (s2 := s2) (s3 := s3) (fs := fs) (fr := fr) (sub := fr.map (subf w s0 s1 s2 s3)) (cs := cs) (hold := hold) (out := []) hl fr.length 0 N (by omega) (by omega)
  have h1 := m94_l1_eq (N := N) (s0 := s0) (s1 := s1) (s2 := s2) (s3 := s3) (hold := hold) (out := []) hf hN hl hcs hlen cs 0 N (fun _ => true) rfl (by omega)
  rw [show ((0 : Nat) : Int) = 0 from rfl] at h0 h1
  simp only [e1, decide_true, d1, d2, Bool.and_self, cond_true, show Int.toNat ((fr.length + 1 : Nat) : Int) = fr.length + 1 from rfl, rep_row, h0, Option.bind_some, h1]
  have h3 := m94_l3_eq (N := N) (cs := cs) (hold := hold) (A := evP w s0 s1 s2 s3 fs fr cs) (by rw [evP, rowP_len]; omega) (evP w s0 s1 s2 s3 fs fr cs) 0 0 N [] rfl (by rw [evP, rowP_len]; omega) (by omega) (by simp)
  rw [show ((0 : Nat) : Int) = 0 from rfl] at h3
  simp only [evP, Bool.true_and] at h3 ⊢
  rw [h3]
  rfl
end
end Go.VM

set_option linter.unusedVariables false
set_option linter.unusedSimpArgs false
namespace Go.VM
def goodC (fs : List D2) (c : D9) : Bool := within c.1 0 ((fs.length : Int) - 1) && within c.2.1 (-1000000) 1000000
def evOK (fs : List D2) (cs : List D9) (hold : Int) : Bool := within (cs.length : Int) 1 4 && (cs.all (goodC fs) && within hold 1 100)
theorem evOK_of {fs : List D2} {cs : List D9} {hold : Int} (h : evOK fs cs hold = true) : cs.length ≤ 4 ∧ (∀ c, c ∈ cs → within c.1 0 ((fs.length : Int) - 1) = true ∧ okC c) ∧ 1 ≤ hold := by
  simp only [evOK, Bool.and_eq_true, within_iff, List.all_eq_true] at h
  refine ⟨by omega, fun c hc => ?_, by omega⟩
  have := h.2.1 c hc
  simp only [goodC, Bool.and_eq_true] at this
  exact ⟨this.1, within_iff.1 this.2⟩
section
variable {N : Nat} {w s0 s1 s2 s3 b : Int} {fs : List D2} {fr : List (List Int)} {sub : List Int}
theorem m124_eq (hl : fs.length < 4611686018427387904) (c : D9) : m124 N c.1 c.2.1 c.2.2 w s0 s1 s2 s3 fs fr sub = some (!goodC fs c) := by
  unfold m124 goodC
  rw [m112_eq hl, Option.bind_some]
  cases within c.1 0 ((fs.length : Int) - 1) with
  | false => rfl
  | true =>
    simp only [cond_true, m74_eq, Option.bind_some, Bool.true_and]
    cases within c.2.1 (-1000000) 1000000 <;> rfl
theorem m151_eq {cs : List D9} (hl : fs.length < 4611686018427387904) (hN : cs.length < N) (hc : cs.length < 4611686018427387904) : m151 N cs w s0 s1 s2 s3 fs fr sub = some (place (fun c => !goodC fs c) cs) := by
  unfold m151
  refine idx_fun (L := fun k i => m151_l0 N k cs w s0 s1 s2 s3 fs fr sub ((cs.length : Nat) : Int) i) (l := cs) (p := fun c => !goodC fs c) (fun k i x r h' => ?_) (fun k i h' => ?_) hN
  · simp only [m151_l0, lt_drop h', inB_drop h', rd_drop h', wrap_drop h' hc, cond_true, m124_eq hl, Option.bind_some]
  · simp only [m151_l0, ge_drop h', cond_false]
theorem m125_eq {cs : List D9} (hl : fs.length < 4611686018427387904) (hN : cs.length < N) (hc : cs.length < 4611686018427387904) : m125 N cs w s0 s1 s2 s3 fs fr sub = some (!(cs.all (goodC fs))) := by
  unfold m125
  rw [m151_eq hl hN hc, Option.bind_some, place_nonneg, bif_tf]
  congr 1
  rw [Bool.eq_iff_iff]
  simp
theorem m93_eq {cs : List D9} {hold : Int} (hl : fs.length < 4611686018427387904) (hN : cs.length < N) (hc : cs.length < 4611686018427387904) : m93 N w s0 s1 s2 s3 fs fr sub cs hold = some (evOK fs cs hold) := by
  unfold m93 evOK
  rw [m74_eq, Option.bind_some]
  cases within (cs.length : Int) 1 4 with
  | false => rfl
  | true =>
    simp only [cond_true, m125_eq hl hN hc, Option.bind_some, Bool.true_and]
    cases cs.all (goodC fs) with
    | false => rfl
    | true =>
      simp only [Bool.not_true, cond_false, m74_eq, Option.bind_some, Bool.true_and]
      cases within hold 1 100 <;> rfl
def eventsR (w s0 s1 s2 s3 : Int) (fs : List D2) (fr : List (List Int)) (cs : List D9) (hold : Int) : List D6 × Int :=
  bif layOK w s0 s1 s2 s3 fs then (bif decide (fr.length ≤ 200) then (bif evOK fs cs hold then (spansP hold 0 0 (evP w s0 s1 s2 s3 fs fr cs), 0) else ([], 121)) else ([], 2)) else ([], 120)
theorem m45_eq {cs : List D9} {hold : Int} (hN : 1000 < N) (hf : ∀ f, f ∈ fs → I64 f.2.2.1) (hc : cs.length ≤ 8) : m45 N w s0 s1 s2 s3 fs fr cs hold = some (eventsR w s0 s1 s2 s3 fs fr cs hold) := by
  unfold m45 eventsR
  rw [m71_eq (by omega) hf, Option.bind_some]
  unfold tapeR
  cases h1 : layOK w s0 s1 s2 s3 fs with
  | false => rfl
  | true =>
    by_cases h2 : fr.length ≤ 200
    · simp only [h2, decide_true, cond_true]
      have e : decide ((0 : Int) ≠ 0) = false := rfl
      obtain ⟨g1, g2⟩ := layOK_f h1
      rw [e, cond_false, m93_eq (by omega) (by omega) (by omega), Option.bind_some]
      cases h3 : evOK fs cs hold with
      | false => rfl
      | true =>
        obtain ⟨v1, v2, v3⟩ := evOK_of h3
        simp only [cond_true, m94_eq g2 hN h2 v2 (by omega), Option.bind_some]
    · simp only [h2, decide_false, cond_true, cond_false]
      rfl
/-! The reference. -/
theorem m49_l0_eq {cs : List D9} {hold : Int} (hl : fs.length < 4611686018427387904) (hc : cs.length < 4611686018427387904) : ∀ (r : List D9) (i k : Nat), cs.drop i = r → r.length < k → m49_l0 N k w s0 s1 s2 s3 fs cs hold (i : Int) = some (bif r.all (goodC fs) then .inr () else .inl false)
  | [], i, k, h, hk => by
    obtain ⟨k, rfl⟩ : ∃ q, k = q + 1 := ⟨k - 1, by simp at hk; omega⟩
    simp only [m49_l0, ge_drop h, cond_false]
    rfl
  | x :: r, i, k, h, hk => by
    obtain ⟨k, rfl⟩ : ∃ q, k = q + 1 := ⟨k - 1, by simp at hk; omega⟩
    simp only [m49_l0, lt_drop h, inB_drop h, rd_drop h, wrap_drop h hc, cond_true, m69_eq hl, m79_eq, Option.bind_some, m49_l0_eq hl hc r (i + 1) k (succ_drop h) (by simp at hk; omega), List.all_cons, goodC]
    cases within x.1 0 ((fs.length : Int) - 1) <;> cases within x.2.1 (-1000000) 1000000 <;> rfl
theorem m49_eq {cs : List D9} {hold : Int} (hl : fs.length < 4611686018427387904) (hN : cs.length < N) (hc : cs.length < 4611686018427387904) : m49 N w s0 s1 s2 s3 fs cs hold = some (evOK fs cs hold) := by
  unfold m49 evOK
  have := m49_l0_eq (N := N) (w := w) (s0 := s0) (s1 := s1) (s2 := s2) (s3 := s3) (hold := hold) hl hc cs 0 N rfl hN
  rw [show ((0 : Nat) : Int) = 0 from rfl] at this
  simp only [m79_eq, Option.bind_some, this]
  cases within (cs.length : Int) 1 4 <;> cases within hold 1 100 <;> cases cs.all (goodC fs) <;> rfl
/-- The latest value among the last n. -/
def lastO (g : Nat → Option Int) : Nat → Nat → Option Int
  | 0, _ => none
  | n + 1, i => match g i with
    | some v => some v
    | none => match i with
      | 0 => none
      | i + 1 => lastO g n i
theorem lastC_O (g : Nat → Option Int) (p : Int → Bool) : ∀ (n i : Nat), lastC g p n i = match lastO g n i with
    | some v => p v
    | none => false
  | 0, i => rfl
  | n + 1, i => by
    simp only [lastC, lastO]
    cases g i with
    | some v => rfl
    | none =>
      cases i with
      | zero => rfl
      | succ i => exact lastC_O g p n i
theorem m50_l0_eq {c : D9} {f : D2} {t0 : Int} (hf : fOK w f = true) (hw : 2 ≤ w ∧ w ≤ 32) (hc : okC c) (hN : 1000 < N) (hl : fr.length ≤ 200) {m : Nat} (hm : m < fr.length) : ∀ (n i k : Nat), i + f.2.2.2.2.2.2.2.1.toNat = m + n → i ≤ m → n + 1 < k →
    m50_l0 N k fr (m : Int) w s0 s1 s2 s3 fs t0 c.2.1 c.2.2 f.1 f.2.1 f.2.2.1 f.2.2.2.1 f.2.2.2.2.1 f.2.2.2.2.2.1 f.2.2.2.2.2.2.1 f.2.2.2.2.2.2.2.1 f.2.2.2.2.2.2.2.2 (i : Int) = some (match lastO (smpAt w s0 s1 s2 s3 fr f) n i with
      | some v => .inl (cmpC c f v)
      | none => .inr ())
  | n, i, 0, h, him, hk => by omega
  | 0, i, k + 1, h, him, hk => by
    have hev := fOK_every hf
    have e0 : decide ((0 : Int) ≤ (i : Int)) = true := decide_eq_true (by omega)
    have e1 : Go.IntKind.wrap .i64 ((m : Int) - f.2.2.2.2.2.2.2.1) = (m : Int) - f.2.2.2.2.2.2.2.1 := wrap64 (by omega) (by omega)
    have e2 : decide ((m : Int) - f.2.2.2.2.2.2.2.1 < (i : Int)) = false := decide_eq_false (by omega)
    simp only [m50_l0, e0, e1, e2, cond_true, cond_false, lastO]
  | n + 1, i, k + 1, h, him, hk => by
    have hev := fOK_every hf
    have e0 : decide ((0 : Int) ≤ (i : Int)) = true := decide_eq_true (by omega)
    have e1 : Go.IntKind.wrap .i64 ((m : Int) - f.2.2.2.2.2.2.2.1) = (m : Int) - f.2.2.2.2.2.2.2.1 := wrap64 (by omega) (by omega)
    have e2 : decide ((m : Int) - f.2.2.2.2.2.2.2.1 < (i : Int)) = true := decide_eq_true (by omega)
    have e3 : inB (i : Int) fr.length = true := inB_nat (by omega)
    obtain ⟨x, hx⟩ : ∃ x, fr[i]? = some x := ⟨fr[i]'(by omega), List.getElem?_eq_getElem (by omega)⟩
    have e4 : rd ([] : List Int) fr (i : Int) = x := rd_nat hx
    have e5 : smpAt w s0 s1 s2 s3 fr f i = smp w s0 s1 s2 s3 f x := by simp [smpAt, hx]
    simp only [m50_l0, e0, e1, e2, e3, e4, cond_true, m96_eq (show 100 < N by omega) hw hf, Option.bind_some, lastO, e5]
    cases hs : smp w s0 s1 s2 s3 f x with
    | some v =>
      simp only [cond_true, lim_wrap hf hc, cmpC]
      cases c.2.2 <;> cases decide (v ≤ c.2.1 * f.2.2.2.2.2.1) <;> cases decide (c.2.1 * f.2.2.2.2.2.1 ≤ v) <;> rfl
    | none =>
      simp only [cond_false]
      cases i with
      | zero =>
        obtain ⟨k, rfl⟩ : ∃ q, k = q + 1 := ⟨k - 1, by omega⟩
        have : Go.IntKind.wrap .i64 (((0 : Nat) : Int) - 1) = -1 := by rw [wrap64 (by omega) (by omega)]; rfl
        rw [this]
        rfl
      | succ i =>
        have : Go.IntKind.wrap .i64 (((i + 1 : Nat) : Int) - 1) = (i : Int) := by rw [wrap64 (by omega) (by omega)]; omega
        rw [this]
        exact m50_l0_eq hf hw hc hN hl hm n i k (by omega) (by omega) (by omega)
theorem m50_eq {c : D9} (hf : ∀ f, f ∈ fs → fOK w f = true) (hw : 2 ≤ w ∧ w ≤ 32) (hwi : within c.1 0 ((fs.length : Int) - 1) = true) (hc : okC c) (hN : 1000 < N) (hl : fr.length ≤ 200) {m : Nat} (hm : m < fr.length) : m50 N w s0 s1 s2 s3 fs fr c.1 c.2.1 c.2.2 (m : Int) = some (holdAt w s0 s1 s2 s3 fs fr c m) := by
  obtain ⟨f, h1, h2, h3⟩ := within_field hwi
  have hfo := hf f (List.mem_of_getElem? h1)
  have hev := fOK_every hfo
  unfold m50 holdAt
  simp only [h2, cond_true, h3]
  rw [m50_l0_eq hfo hw hc hN hl hm f.2.2.2.2.2.2.2.1.toNat m N (by omega) (Nat.le_refl _) (by omega), Option.bind_some, lastC_O]
  cases lastO (smpAt w s0 s1 s2 s3 fr f) f.2.2.2.2.2.2.2.1.toNat m <;> rfl
theorem m95_l1_eq {cs : List D9} {hold : Int} {out : List D6} {beg : Int} (hf : ∀ f, f ∈ fs → fOK w f = true) (hw : 2 ≤ w ∧ w ≤ 32) (hN : 1000 < N) (hl : fr.length ≤ 200) (hcs : ∀ c, c ∈ cs → within c.1 0 ((fs.length : Int) - 1) = true ∧ okC c) (hlen : cs.length ≤ 100) {m : Nat} (hm : m < fr.length) : ∀ (r : List D9) (i k : Nat) (is : Bool), cs.drop i = r → r.length < k →
    m95_l1 N k fr w s0 s1 s2 s3 fs cs hold out beg (m : Int) is (i : Int) = some (fr, (w, (s0, (s1, (s2, (s3, (fs, (cs, (hold, (out, (beg, ((m : Int), is && r.all fun c => holdAt w s0 s1 s2 s3 fs fr c m))))))))))))
  | [], i, k, is, h, hk => by
    obtain ⟨k, rfl⟩ : ∃ q, k = q + 1 := ⟨k - 1, by simp at hk; omega⟩
    simp only [m95_l1, ge_drop h, cond_false, List.all_nil, Bool.and_true]
  | c :: r, i, k, is, h, hk => by
    obtain ⟨k, rfl⟩ : ∃ q, k = q + 1 := ⟨k - 1, by simp at hk; omega⟩
    obtain ⟨c1, c2⟩ := hcs c (List.mem_of_getElem? (drop_get h))
    have ih := fun is => m95_l1_eq (hold := hold) (out := out) (beg := beg) hf hw hN hl hcs hlen hm r (i + 1) k is (succ_drop h) (by simp at hk; omega)
    cases is with
    | false => simp only [m95_l1, lt_drop h, cond_true, cond_false, Bool.false_and]
    | true =>
      simp only [m95_l1, lt_drop h, inB_drop h, rd_drop h, wrap_drop h (show cs.length < 4611686018427387904 by omega), cond_true, m50_eq hf hw c1 c2 hN hl hm, Option.bind_some, List.all_cons, ih, Bool.true_and]
      cases holdAt w s0 s1 s2 s3 fs fr c m <;> rfl
end
end Go.VM

set_option linter.unusedVariables false
set_option linter.unusedSimpArgs false
namespace Go.VM
/-- The stretches, as the document finds them. -/
def spansR (hold : Int) : Nat → Int → List Bool → List D6
  | _, _, [] => []
  | i, beg, b :: r => bif b then (bif decide (beg < 0) then spansR hold (i + 1) (i : Int) r else spansR hold (i + 1) beg r) else (bif decide (0 ≤ beg) then (bif decide (hold ≤ (i : Int) - beg) then (beg, (i : Int) - 1) :: spansR hold (i + 1) (-1) r else spansR hold (i + 1) (-1) r) else spansR hold (i + 1) beg r)
theorem spans_eq {hold : Int} (hh : 1 ≤ hold) : ∀ (r : List Bool) (i first : Nat) (beg : Int), (beg < 0 ∧ first = i) ∨ (beg = (first : Int) ∧ first ≤ i) → spansP hold i first r = spansR hold i beg r
  | [], i, first, beg, h => rfl
  | true :: r, i, first, beg, h => by
    simp only [spansP, spansR, cond_true]
    rcases h with ⟨h1, h2⟩ | ⟨h1, h2⟩
    · rw [decide_eq_true h1, cond_true]
      exact spans_eq hh r (i + 1) first i (.inr ⟨by rw [h2], by omega⟩)
    · rw [decide_eq_false (show ¬ beg < 0 by omega), cond_false]
      exact spans_eq hh r (i + 1) first beg (.inr ⟨h1, by omega⟩)
  | false :: r, i, first, beg, h => by
    simp only [spansP, spansR, cond_false]
    rcases h with ⟨h1, h2⟩ | ⟨h1, h2⟩
    · rw [decide_eq_false (show ¬ 0 ≤ beg by omega), decide_eq_false (show ¬ hold ≤ (i : Int) - (first : Int) by omega), cond_false, cond_false]
      exact spans_eq hh r (i + 1) (i + 1) beg (.inl ⟨h1, rfl⟩)
    · rw [decide_eq_true (show 0 ≤ beg by omega), cond_true, h1, spans_eq hh r (i + 1) (i + 1) (-1) (.inl ⟨by omega, rfl⟩)]
section
variable {N : Nat} {w s0 s1 s2 s3 b : Int} {fs : List D2} {fr : List (List Int)} {sub : List Int}
theorem m95_l1_false {cs : List D9} {hold : Int} {out : List D6} {beg m i : Int} (hN : 0 < N) :
    m95_l1 N N fr w s0 s1 s2 s3 fs cs hold out beg m false i = some (fr, (w, (s0, (s1, (s2, (s3, (fs, (cs, (hold, (out, (beg, (m, false)))))))))))) := by
  obtain ⟨k, rfl⟩ : ∃ q, N = q + 1 := ⟨N - 1, by omega⟩
  simp only [m95_l1]
  cases decide (i < ((cs.length : Nat) : Int)) <;> rfl
theorem m95_l0_eq {cs : List D9} {hold : Int} (hf : ∀ f, f ∈ fs → fOK w f = true) (hw : 2 ≤ w ∧ w ≤ 32) (hN : 1000 < N) (hl : fr.length ≤ 200) (hcs : ∀ c, c ∈ cs → within c.1 0 ((fs.length : Int) - 1) = true ∧ okC c) (hlen : cs.length ≤ 100) : ∀ (r : List Bool) (i k : Nat) (out : List D6) (beg : Int), (evP w s0 s1 s2 s3 fs fr cs).drop i = r → r.length < k → -1 ≤ beg → beg ≤ i → out.length ≤ i →
    m95_l0 N k fr w s0 s1 s2 s3 fs cs hold out beg (i : Int) = some (out ++ spansR hold i beg r)
  | [], i, k, out, beg, h, hk, h1, h2, ho => by
    obtain ⟨k, rfl⟩ : ∃ q, k = q + 1 := ⟨k - 1, by simp at hk; omega⟩
    have := congrArg List.length h
    simp only [evP, List.length_drop, rowP_len, List.length_nil] at this
    have e : decide ((i : Int) ≤ ((fr.length : Nat) : Int)) = false := decide_eq_false (by omega)
    simp only [m95_l0, e, cond_false, spansR, List.append_nil]
  | b :: r, i, k, out, beg, h, hk, h1, h2, ho => by
    obtain ⟨k, rfl⟩ : ∃ q, k = q + 1 := ⟨k - 1, by simp at hk; omega⟩
    have hlt := drop_lt h
    simp only [evP, rowP_len] at hlt
    have hget := drop_get h
    rw [evP, rowP_get] at hget
    have e : decide ((i : Int) ≤ ((fr.length : Nat) : Int)) = true := decide_eq_true (by omega)
    have w1 : Go.IntKind.wrap .i64 ((i : Int) + 1) = ((i + 1 : Nat) : Int) := wrap_nat (by omega)
    have w2 : Go.IntKind.wrap .i64 ((i : Int) - 1) = (i : Int) - 1 := wrap64 (by omega) (by omega)
    have w3 : Go.IntKind.wrap .i64 ((i : Int) - beg) = (i : Int) - beg := wrap64 (by omega) (by omega)
    have hroom : room (out ++ [(beg, (i : Int) - 1)]).length 16 = true := room_small (by simp; omega) (by omega)
    have ih := fun out beg h1 h2 h3 => m95_l0_eq (hold := hold) hf hw hN hl hcs hlen r (i + 1) k out beg (succ_drop h) (by simp at hk; omega) h1 h2 h3
    by_cases hi : i < fr.length
    · rw [if_pos hi] at hget
      injection hget with hget
      have e2 : decide ((i : Int) < ((fr.length : Nat) : Int)) = true := decide_eq_true (by omega)
      have hl1 := m95_l1_eq (N := N) (s0 := s0) (s1 := s1) (s2 := s2) (s3 := s3) (hold := hold) (out := out) (beg := beg) hf hw hN hl hcs hlen hi cs 0 N true rfl (by omega)
      rw [show ((0 : Nat) : Int) = 0 from rfl, hget, Bool.true_and] at hl1
      simp only [m95_l0, e, e2, cond_true, hl1, Option.bind_some, spansR]
      cases b with
      | true =>
        simp only [cond_true]
        cases hd : decide (beg < 0) with
        | true =>
          simp only [cond_true, w1]
          exact ih out i (by omega) (by omega) (by omega)
        | false =>
          simp only [cond_false, w1]
          exact ih out beg h1 (by omega) (by omega)
      | false =>
        simp only [cond_false]
        cases hd : decide (0 ≤ beg) with
        | true =>
          simp only [cond_true, w1, w2, w3, hroom]
          cases decide (hold ≤ (i : Int) - beg) with
          | true =>
            simp only [cond_true]
            rw [ih _ (-1) (by omega) (by omega) (by simp; omega)]
            simp
          | false =>
            simp only [cond_false]
            exact ih out (-1) (by omega) (by omega) (by omega)
        | false =>
          simp only [cond_false, w1]
          exact ih out beg h1 (by omega) (by omega)
    · rw [if_neg hi, if_pos (by omega)] at hget
      injection hget with hget
      subst hget
      have e2 : decide ((i : Int) < ((fr.length : Nat) : Int)) = false := decide_eq_false (by omega)
      simp only [m95_l0, e, e2, cond_true, cond_false, m95_l1_false (show 0 < N by omega), Option.bind_some, spansR]
      cases hd : decide (0 ≤ beg) with
      | true =>
        simp only [cond_true, w1, w2, w3, hroom]
        cases decide (hold ≤ (i : Int) - beg) with
        | true =>
          simp only [cond_true]
          rw [ih _ (-1) (by omega) (by omega) (by simp; omega)]
          simp
        | false =>
          simp only [cond_false]
          exact ih out (-1) (by omega) (by omega) (by omega)
      | false =>
        simp only [cond_false, w1]
        exact ih out beg h1 (by omega) (by omega)
theorem m47_eq {cs : List D9} {hold : Int} (hN : 1000 < N) (hf : ∀ f, f ∈ fs → I64 f.2.2.1) (hc : cs.length ≤ 8) : m47 N w s0 s1 s2 s3 fs fr cs hold = some (eventsR w s0 s1 s2 s3 fs fr cs hold) := by
  unfold m47 eventsR
  rw [m68_eq (by omega) hf, Option.bind_some]
  cases h1 : layOK w s0 s1 s2 s3 fs with
  | false => rfl
  | true =>
    by_cases h2 : fr.length ≤ 200
    · simp only [h2, decide_true, cond_true]
      have e : decide ((0 : Int) ≠ 0) = false := rfl
      obtain ⟨g1, g2⟩ := layOK_f h1
      rw [e, cond_false, m49_eq (by omega) (by omega) (by omega), Option.bind_some]
      cases h3 : evOK fs cs hold with
      | false => rfl
      | true =>
        obtain ⟨v1, v2, v3⟩ := evOK_of h3
        unfold m95
        have hh := m95_l0_eq (N := N) (s0 := s0) (s1 := s1) (s2 := s2) (s3 := s3) (hold := hold) g2 (layOK_w h1) hN h2 v2 (by omega) (evP w s0 s1 s2 s3 fs fr cs) 0 N [] (-1) rfl (by rw [evP, rowP_len]; omega) (by omega) (by omega) (by simp)
        rw [show ((0 : Nat) : Int) = 0 from rfl] at hh
        rw [spans_eq v3 (evP w s0 s1 s2 s3 fs fr cs) 0 0 (-1) (.inl ⟨by omega, rfl⟩)]
        simp only [cond_true, hh, Option.bind_some, List.nil_append]
    · simp only [h2, decide_false, cond_true, cond_false]
      rfl
theorem m48_l0_eq {l l' : List D6} (hl : l.length < 4611686018427387904) (he : l'.length = l.length) : ∀ (r r' : List D6) (i k : Nat), l.drop i = r → l'.drop i = r' → r.length < k → m48_l0 N k l l' (i : Int) = some (bif decide (r = r') then .inr () else .inl false)
  | [], r', i, k, h, h', hk => by
    obtain ⟨k, rfl⟩ : ∃ q, k = q + 1 := ⟨k - 1, by simp at hk; omega⟩
    have := congrArg List.length h
    simp at this
    have : r' = [] := by rw [← h']; exact List.drop_eq_nil_of_le (by omega)
    simp only [m48_l0, ge_drop h, cond_false, this, decide_true, cond_true]
  | x :: r, r', i, k, h, h', hk => by
    obtain ⟨k, rfl⟩ : ∃ q, k = q + 1 := ⟨k - 1, by simp at hk; omega⟩
    have hlt := drop_lt h
    cases r' with
    | nil =>
      have := congrArg List.length h'
      simp at this
      omega
    | cons y q =>
      have ih := m48_l0_eq hl he r q (i + 1) k (succ_drop h) (succ_drop h') (by simp at hk; omega)
      simp only [m48_l0, lt_drop h, inB_drop h, rd_drop h, inB_drop h', rd_drop h', wrap_drop h hl, cond_true, ih]
      by_cases c : x = y
      · simp [c]
      · have : (decide (x.1 = y.1) && decide (x.2 = y.2)) = false := by
          rw [Bool.eq_false_iff]
          intro hh
          simp only [Bool.and_eq_true, decide_eq_true_eq] at hh
          exact c (Prod.ext hh.1 hh.2)
        rw [this]
        simp [c]
theorem m48_eq {l l' : List D6} (hl : l.length < 4611686018427387904) (hN : l.length < N) : m48 N l l' = some (decide (l = l')) := by
  unfold m48
  by_cases c : l.length = l'.length
  · have e : decide (((l.length : Nat) : Int) ≠ ((l'.length : Nat) : Int)) = false := by simp [c]
    have := m48_l0_eq (N := N) hl c.symm l l' 0 N rfl rfl hN
    rw [show ((0 : Nat) : Int) = 0 from rfl] at this
    rw [e, cond_false, this, Option.bind_some]
    cases decide (l = l') <;> rfl
  · have e : decide (((l.length : Nat) : Int) ≠ ((l'.length : Nat) : Int)) = true := by simp; omega
    have e2 : decide (l = l') = false := by
      simp
      intro h
      exact c (by rw [h])
    rw [e, e2]
    rfl
theorem spansP_len (hold : Int) : ∀ (r : List Bool) (i first : Nat), (spansP hold i first r).length ≤ r.length
  | [], i, first => Nat.le_refl _
  | b :: r, i, first => by
    have a := spansP_len hold r (i + 1) first
    have c := spansP_len hold r (i + 1) (i + 1)
    simp only [spansP]
    cases b <;> cases decide (hold ≤ (i : Int) - (first : Int)) <;> simp <;> omega
theorem eventsR_len {cs : List D9} {hold : Int} : (eventsR w s0 s1 s2 s3 fs fr cs hold).1.length ≤ 201 := by
  unfold eventsR
  by_cases h2 : fr.length ≤ 200
  · have := spansP_len hold (evP w s0 s1 s2 s3 fs fr cs) 0 0
    rw [evP, rowP_len] at this
    rw [← evP] at this
    cases layOK w s0 s1 s2 s3 fs <;> cases evOK fs cs hold <;> simp [h2] <;> omega
  · cases layOK w s0 s1 s2 s3 fs <;> simp [h2]
theorem m44_eq {cs : List D9} {hold : Int} : m44 N cs hold = some (decide (8 < cs.length)) := by
  unfold m44
  rw [bif_tf]
  congr 2
  simp
  omega
theorem m46_eq {cs : List D9} {hold : Int} (h : cs.length ≤ 8) : m46 N cs hold = some (cs, hold) := by
  unfold m46
  rw [List.nil_append, room_small (by omega) (by omega), cond_true]
theorem m9_eq {cs : List D9} {hold : Int} (hN : 1001 < N) (hf : ∀ f, f ∈ fs → I64 f.2.2.1) : m9 N w s0 s1 s2 s3 fs fr cs hold = some true := by
  unfold m9
  rw [m15_eq (by omega), Option.bind_some]
  cases hfar : farT fs fr with
  | true => simp only [cond_true, m16_eq (show 1000 < N by omega), Option.bind_some]
  | false =>
    rw [cond_false, m44_eq, Option.bind_some]
    by_cases hc : 8 < cs.length
    · simp only [hc, decide_true, cond_true, m16_eq (show 1000 < N by omega), Option.bind_some]
    · rw [decide_eq_false hc, cond_false, m17_eq (by omega) hfar, Option.bind_some, m46_eq (by omega), Option.bind_some]
      simp only
      have hlen := eventsR_len (w := w) (s0 := s0) (s1 := s1) (s2 := s2) (s3 := s3) (fs := fs) (fr := fr) (cs := cs) (hold := hold)
      simp only [m45_eq (show 1000 < N by omega) hf (show cs.length ≤ 8 by omega), m47_eq (show 1000 < N by omega) hf (show cs.length ≤ 8 by omega), Option.bind_some, m48_eq (show (eventsR w s0 s1 s2 s3 fs fr cs hold).1.length < 4611686018427387904 by omega) (show (eventsR w s0 s1 s2 s3 fs fr cs hold).1.length < N by omega), decide_true, cond_true, m16_eq (show 1000 < N by omega)]
end
theorem pure9 (x : pt (tysL m9_a)) (hx : wfP (tysL m9_a) x) : ∃ N, (m9_s N).f x = some true := by
  refine ⟨1002, ?_⟩
  show m9 1002 _ _ _ _ _ _ _ _ _ = _
  exact m9_eq (by omega) (fields_i64 hx.2.2.2.2.2.1)
end Go.VM
