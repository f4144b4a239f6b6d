/- Part Q6 of a claim: a machine over the model on plain data, what it makes of the program, plain laws. -/
import Derived.Test.YtdelhhjhkjcpnaaQ5
set_option linter.unusedVariables false
set_option linter.unusedSimpArgs false
namespace Go.VM
def hoursF (h : Int) (s : D6) : Int := Go.IntKind.wrap .i64 (Int.tdiv (Go.IntKind.wrap .i64 (Go.IntKind.wrap .i64 (s.2 - s.1) + h)) h)
def flG (m h : Int) : List D6 → List D1 → (List D1 × Int) ⊕ List D1
  | [], o => .inr o
  | s :: r, o => bif decide (100 < hoursF h s) then .inl ([], 2) else flG m h r (o ++ [(1, (m, (hoursF h s, 1)))])
theorem flG_len (m h : Int) : ∀ (l : List D6) (o q : List D1), flG m h l o = .inr q → q.length = o.length + l.length
  | [], o, q, e => by
    simp only [flG, Sum.inr.injEq] at e
    subst e
    simp
  | s :: r, o, q, e => by
    simp only [flG] at e
    cases hd : decide (100 < hoursF h s) <;> rw [hd] at e
    · have := flG_len m h r _ q e
      simp at this ⊢
      omega
    · cases e
section
variable {N : Nat} {w s0 s1 s2 s3 b : Int} {fs : List D2} {fr : List (List Int)} {sub : List Int}
theorem m56_l0_eq {m h : Int} (hh : h ≠ 0) {l : List D6} (hl : l.length ≤ 300) : ∀ (r : List D6) (i k : Nat) (o : List D1), l.drop i = r → r.length < k → o.length ≤ i → m56_l0 N k m h o l ((l.length : Nat) : Int) (i : Int) = some (flG m h r o)
  | [], i, k, o, hd, hk, ho => by
    obtain ⟨k, rfl⟩ : ∃ q, k = q + 1 := ⟨k - 1, by simp at hk; omega⟩
    simp only [m56_l0, ge_drop hd, cond_false, flG]
  | s :: r, i, k, o, hd, hk, ho => by
    obtain ⟨k, rfl⟩ : ∃ q, k = q + 1 := ⟨k - 1, by simp at hk; omega⟩
    have hlt := drop_lt hd
    have e0 : decide (h ≠ 0) = true := decide_eq_true hh
    have e1 : Go.IntKind.wrap .i64 (Int.tdiv (Go.IntKind.wrap .i64 (Go.IntKind.wrap .i64 (s.2 - s.1) + h)) h) = hoursF h s := rfl
    have hroom : ∀ x : D1, room (o ++ [x]).length 32 = true := fun x => room_small (by simp; omega) (by omega)
    simp only [m56_l0, lt_drop hd, inB_drop hd, rd_drop hd, wrap_drop hd (show l.length < 4611686018427387904 by omega), cond_true, e0, e1, hroom, flG]
    cases decide (100 < hoursF h s) with
    | true => rfl
    | false =>
      simp only [cond_false]
      exact m56_l0_eq hh hl r (i + 1) k _ (succ_drop hd) (by simp at hk; omega) (by simp; omega)
theorem m57_l0_eq {m h : Int} (hh : h ≠ 0) {l : List D6} (hl : l.length ≤ 300) : ∀ (r : List D6) (i k : Nat) (o : List D1), l.drop i = r → r.length < k → o.length ≤ i → m57_l0 N k m h l o (i : Int) = some (flG m h r o)
  | [], i, k, o, hd, hk, ho => by
    obtain ⟨k, rfl⟩ : ∃ q, k = q + 1 := ⟨k - 1, by simp at hk; omega⟩
    simp only [m57_l0, ge_drop hd, cond_false, flG]
  | s :: r, i, k, o, hd, hk, ho => by
    obtain ⟨k, rfl⟩ : ∃ q, k = q + 1 := ⟨k - 1, by simp at hk; omega⟩
    have hlt := drop_lt hd
    have e0 : decide (h ≠ 0) = true := decide_eq_true hh
    have e1 : Go.IntKind.wrap .i64 (Int.tdiv (Go.IntKind.wrap .i64 (Go.IntKind.wrap .i64 (s.2 - s.1) + h)) h) = hoursF h s := rfl
    have hroom : ∀ x : D1, room (o ++ [x]).length 32 = true := fun x => room_small (by simp; omega) (by omega)
    simp only [m57_l0, lt_drop hd, inB_drop hd, rd_drop hd, wrap_drop hd (show l.length < 4611686018427387904 by omega), cond_true, e0, e1, hroom, flG]
    cases decide (100 < hoursF h s) with
    | true => rfl
    | false =>
      simp only [cond_false]
      exact m57_l0_eq hh hl r (i + 1) k _ (succ_drop hd) (by simp at hk; omega) (by simp; omega)
def flightsR (ev : List D6 × Int) (m h : Int) : List D1 × Int := bif decide (ev.2 ≠ 0) then ([], ev.2) else (bif within m 0 3 then (bif within h 1 200 then (match flG m h ev.1 [] with
  | .inl r => (r.1, r.2)
  | .inr o => (o, 0)) else ([], 1)) else ([], 1))
theorem flightsR_len {ev : List D6 × Int} {m h : Int} (hl : ev.1.length ≤ 300) : (flightsR ev m h).1.length ≤ 300 := by
  unfold flightsR
  cases decide (ev.2 ≠ 0) with
  | true => simp
  | false =>
    cases within m 0 3 with
    | false => simp
    | true =>
      cases within h 1 200 with
      | false => simp
      | true =>
        simp only [cond_false, cond_true]
        cases hf : flG m h ev.1 [] with
        | inl r =>
          have : ∀ (l : List D6) (o : List D1) (r : List D1 × Int), flG m h l o = .inl r → r = ([], 2) := by
            intro l
            induction l with
            | nil => intro o r e; cases e
            | cons s q ih =>
              intro o r e
              simp only [flG] at e
              cases hd : decide (100 < hoursF h s) <;> rw [hd] at e
              · exact ih _ r e
              · simp only [cond_true, Sum.inl.injEq] at e
                exact e.symm
          have := this _ _ _ hf
          subst this
          simp
        | inr o =>
          have := flG_len m h _ _ _ hf
          simp at this ⊢
          omega
theorem m56_eq {cs : List D9} {hold m h : Int} (hN : 1000 < N) (hf : ∀ f, f ∈ fs → I64 f.2.2.1) (hc : cs.length ≤ 8) : m56 N w s0 s1 s2 s3 fs fr cs hold m h = some (flightsR (eventsR w s0 s1 s2 s3 fs fr cs hold) m h) := by
  unfold m56 flightsR
  rw [m45_eq hN hf hc, Option.bind_some]
  have hlen := eventsR_len (w := w) (s0 := s0) (s1 := s1) (s2 := s2) (s3 := s3) (fs := fs) (fr := fr) (cs := cs) (hold := hold)
  generalize eventsR w s0 s1 s2 s3 fs fr cs hold = ev at hlen ⊢
  cases decide (ev.2 ≠ 0) with
  | true => rfl
  | false =>
    simp only [cond_false, m74_eq, Option.bind_some]
    cases within m 0 3 with
    | false => rfl
    | true =>
      simp only [cond_true]
      cases hw : within h 1 200 with
      | false => rfl
      | true =>
        have := within_iff.1 hw
        have hl := m56_l0_eq (N := N) (m := m) (h := h) (by omega) (l := ev.1) (by omega) ev.1 0 N [] rfl (by omega) (by simp)
        rw [show ((0 : Nat) : Int) = 0 from rfl] at hl
        simp only [cond_true, hl, Option.bind_some]
        cases flG m h ev.1 [] <;> rfl
theorem m57_eq {cs : List D9} {hold m h : Int} (hN : 1000 < N) (hf : ∀ f, f ∈ fs → I64 f.2.2.1) (hc : cs.length ≤ 8) : m57 N w s0 s1 s2 s3 fs fr cs hold m h = some (flightsR (eventsR w s0 s1 s2 s3 fs fr cs hold) m h) := by
  unfold m57 flightsR
  rw [m47_eq hN hf hc, Option.bind_some]
  have hlen := eventsR_len (w := w) (s0 := s0) (s1 := s1) (s2 := s2) (s3 := s3) (fs := fs) (fr := fr) (cs := cs) (hold := hold)
  generalize eventsR w s0 s1 s2 s3 fs fr cs hold = ev at hlen ⊢
  cases decide (ev.2 ≠ 0) with
  | true => rfl
  | false =>
    simp only [cond_false, m79_eq, Option.bind_some]
    cases within m 0 3 with
    | false => rfl
    | true =>
      simp only [cond_true]
      cases hw : within h 1 200 with
      | false => rfl
      | true =>
        have := within_iff.1 hw
        have hl := m57_l0_eq (N := N) (m := m) (h := h) (by omega) (l := ev.1) (by omega) ev.1 0 N [] rfl (by omega) (by simp)
        rw [show ((0 : Nat) : Int) = 0 from rfl] at hl
        simp only [cond_true, hl, Option.bind_some]
        cases flG m h ev.1 [] <;> rfl
theorem m12_l0_eq {l : List D1} (hl : l.length ≤ 300) : ∀ (r : List D1) (i k : Nat), l.drop i = r → r.length < k → m12_l0 N k l l (i : Int) = some (.inr ())
  | [], i, k, h, hk => by
    obtain ⟨k, rfl⟩ : ∃ q, k = q + 1 := ⟨k - 1, by simp at hk; omega⟩
    simp only [m12_l0, ge_drop h, cond_false]
  | x :: r, i, k, h, hk => by
    obtain ⟨k, rfl⟩ : ∃ q, k = q + 1 := ⟨k - 1, by simp at hk; omega⟩
    simp only [m12_l0, lt_drop h, inB_drop h, rd_drop h, wrap_drop h (show l.length < 4611686018427387904 by omega), cond_true, decide_true, Bool.and_self, Bool.not_true, cond_false]
    exact m12_l0_eq hl r (i + 1) k (succ_drop h) (by simp at hk; omega)
theorem m12_eq {cs : List D9} {hold m h : Int} (hN : 1001 < N) (hf : ∀ f, f ∈ fs → I64 f.2.2.1) : m12 N w s0 s1 s2 s3 fs fr cs hold m h = some true := by
  unfold m12
  rw [m15_eq (by omega), Option.bind_some]
  cases hfar : farT fs fr with
  | true => simp only [cond_true, m16_eq (show 1000 < N by omega), Option.bind_some]
  | false =>
    rw [cond_false, m44_eq, Option.bind_some]
    by_cases hc : 8 < cs.length
    · simp only [hc, decide_true, cond_true, m16_eq (show 1000 < N by omega), Option.bind_some]
    · rw [decide_eq_false hc, cond_false, m17_eq (by omega) hfar, Option.bind_some, m46_eq (by omega), Option.bind_some]
      have hlen := flightsR_len (ev := eventsR w s0 s1 s2 s3 fs fr cs hold) (m := m) (h := h) (by have := eventsR_len (w := w) (s0 := s0) (s1 := s1) (s2 := s2) (s3 := s3) (fs := fs) (fr := fr) (cs := cs) (hold := hold); omega)
      simp only [m56_eq (show 1000 < N by omega) hf (show cs.length ≤ 8 by omega), m57_eq (show 1000 < N by omega) hf (show cs.length ≤ 8 by omega), Option.bind_some]
      generalize flightsR (eventsR w s0 s1 s2 s3 fs fr cs hold) m h = q at hlen ⊢
      have hl := m12_l0_eq (N := N) hlen q.1 0 N rfl (by omega)
      rw [show ((0 : Nat) : Int) = 0 from rfl] at hl
      simp only [ne_eq, not_true_eq_false, decide_false, cond_false, hl, Option.bind_some, m16_eq (show 1000 < N by omega), cond_true]
end
theorem pure12 (x : pt (tysL m12_a)) (hx : wfP (tysL m12_a) x) : ∃ N, (m12_s N).f x = some true := by
  refine ⟨1002, ?_⟩
  show m12 1002 _ _ _ _ _ _ _ _ _ _ _ = _
  exact m12_eq (by omega) (fields_i64 hx.2.2.2.2.2.1)
end Go.VM
