/- Part Q1 of a claim: a machine over the model on plain data, what it makes of the program, plain laws. -/
import Derived.Test.YtdelhhjhkjcpnaaTb
import Derived.Test.YtdelhhjhkjcpnaaGc
import Derived.Test.YtdelhhjhkjcpnaaW3
/-
Plain words: indexes, loops over lists, whole numbers of 64 bits.
-/
set_option linter.unusedVariables false
set_option linter.unusedSimpArgs false
namespace Go.VM

theorem wrap64 {x : Int} (h1 : -9223372036854775808 ≤ x) (h2 : x < 9223372036854775808) : Go.IntKind.wrap .i64 x = x := by
  simp only [Go.IntKind.wrap]
  simp [Go.IntKind.bits, Go.IntKind.signed]
  omega
theorem wrapu64 {x : Int} (h1 : 0 ≤ x) (h2 : x < 18446744073709551616) : Go.IntKind.wrap .u64 x = x := by
  simp only [Go.IntKind.wrap]
  simp [Go.IntKind.bits, Go.IntKind.signed]
  omega

section
variable {α : Type} {l r : List α} {i : Nat} {x z : α}
theorem inB_nat {i n : Nat} (h : i < n) : inB (i : Int) n = true := by simp [inB]; omega
theorem inB_int {i : Int} {n : Nat} (h0 : 0 ≤ i) (h : i < n) : inB i n = true := by simp [inB]; omega
theorem inB_out {i : Int} {n : Nat} (h : ¬ (0 ≤ i ∧ i < n)) : inB i n = false := by simp [inB]; omega
theorem drop_lt (h : l.drop i = x :: r) : i < l.length := by
  have := congrArg List.length h
  simp at this
  omega
theorem drop_get (h : l.drop i = x :: r) : l[i]? = some x := by
  have : (l.drop i)[0]? = some x := by rw [h]; rfl
  simpa using this
theorem rd_drop (h : l.drop i = x :: r) : rd z l (i : Int) = x := by
  simp [rd, List.getD, drop_get h]
theorem inB_drop (h : l.drop i = x :: r) : inB (i : Int) l.length = true := inB_nat (drop_lt h)
theorem lt_drop (h : l.drop i = x :: r) : decide ((i : Int) < (l.length : Int)) = true := by
  have := drop_lt h
  simp
  omega
theorem ge_drop (h : l.drop i = []) : decide ((i : Int) < (l.length : Int)) = false := by
  have := congrArg List.length h
  simp at this
  simp
  omega
theorem succ_drop (h : l.drop i = x :: r) : l.drop (i + 1) = r := by
  rw [← List.drop_drop, h]
  rfl
theorem wrap_drop (h : l.drop i = x :: r) (hl : l.length < 4611686018427387904) : Go.IntKind.wrap .i64 ((i : Int) + 1) = ((i + 1 : Nat) : Int) := by
  have := drop_lt h
  rw [wrap64 (by omega) (by omega)]
  rfl
theorem wrap_nat {i : Nat} (h : i < 4611686018427387904) : Go.IntKind.wrap .i64 ((i : Int) + 1) = ((i + 1 : Nat) : Int) := by
  rw [wrap64 (by omega) (by omega)]
  rfl
theorem rd_getP {l : List α} {i : Int} (h0 : 0 ≤ i) (h : i < l.length) : ∃ x, l[i.toNat]? = some x ∧ rd z l i = x := by
  have : i.toNat < l.length := by omega
  exact ⟨l[i.toNat], List.getElem?_eq_getElem this, by simp [rd, List.getD, List.getElem?_eq_getElem this]⟩
theorem rd_nat {l : List α} {i : Nat} (h : l[i]? = some x) : rd z l (i : Int) = x := by simp [rd, List.getD, h]
end

/-- A scan of a list with an index, that may stop. -/
def scan {α σ ρ : Type} (f : Nat → α → σ → ρ ⊕ σ) (fin : σ → ρ) : Nat → List α → σ → ρ
  | _, [], s => fin s
  | i, x :: r, s => match f i x s with
    | .inl a => a
    | .inr t => scan f fin (i + 1) r t

theorem scan_loop {α σ ρ : Type} {L : Nat → σ → Int → Option ρ} {l : List α} {f : Nat → α → σ → ρ ⊕ σ} {fin : σ → ρ} (I : Nat → σ → Prop)
    (h1 : ∀ k i x r s, I i s → l.drop i = x :: r → L (k + 1) s (i : Int) = match f i x s with
      | .inl a => some a
      | .inr t => L k t ((i + 1 : Nat) : Int))
    (hI : ∀ i x r s t, I i s → l.drop i = x :: r → f i x s = .inr t → I (i + 1) t)
    (h0 : ∀ k i s, I i s → l.drop i = [] → L (k + 1) s (i : Int) = some (fin s)) :
    ∀ (r : List α) (i k : Nat) (s : σ), I i s → l.drop i = r → r.length < k → L k s (i : Int) = some (scan f fin i r s)
  | [], i, k, s, hs, hr, hk => by
    obtain ⟨k, rfl⟩ : ∃ q, k = q + 1 := ⟨k - 1, by simp at hk; omega⟩
    rw [h0 k i s hs hr]
    rfl
  | x :: r, i, k, s, hs, hr, hk => by
    obtain ⟨k, rfl⟩ : ∃ q, k = q + 1 := ⟨k - 1, by simp at hk; omega⟩
    rw [h1 k i x r s hs hr]
    simp only [scan]
    cases hf : f i x s with
    | inl a => rfl
    | inr t =>
      simp only
      exact scan_loop I h1 hI h0 r (i + 1) k t (hI i x r s t hs hr hf) (succ_drop hr) (by simp at hk; omega)

/-- The place of the first element with a property. -/
def place {α : Type} (p : α → Bool) (l : List α) : Int := match l.findIdx? p with
  | some j => (j : Int)
  | none => -1
theorem idx_loop {α : Type} {L : Nat → Int → Option (Int ⊕ Unit)} {l : List α} {p : α → Bool}
    (h1 : ∀ k i x r, l.drop i = x :: r → L (k + 1) (i : Int) = bif p x then some (.inl (i : Int)) else L k ((i + 1 : Nat) : Int))
    (h0 : ∀ k i, l.drop i = [] → L (k + 1) (i : Int) = some (.inr ())) :
    ∀ (r : List α) (i k : Nat), l.drop i = r → r.length < k → L k (i : Int) = some (match r.findIdx? p with
      | some j => .inl ((i + j : Nat) : Int)
      | none => .inr ())
  | [], i, k, hr, hk => by
    obtain ⟨k, rfl⟩ : ∃ q, k = q + 1 := ⟨k - 1, by simp at hk; omega⟩
    rw [h0 k i hr]
    rfl
  | x :: r, i, k, hr, hk => by
    obtain ⟨k, rfl⟩ : ∃ q, k = q + 1 := ⟨k - 1, by simp at hk; omega⟩
    rw [h1 k i x r hr, List.findIdx?_cons]
    cases hp : p x with
    | true => simp
    | false =>
      simp only [cond_false, Bool.false_eq_true, if_false]
      rw [idx_loop h1 h0 r (i + 1) k (succ_drop hr) (by simp at hk; omega)]
      cases r.findIdx? p with
      | none => rfl
      | some j => simp; omega
theorem idx_fun {α : Type} {L : Nat → Int → Option (Int ⊕ Unit)} {l : List α} {p : α → Bool}
    (h1 : ∀ k i x r, l.drop i = x :: r → L (k + 1) (i : Int) = bif p x then some (.inl (i : Int)) else L k ((i + 1 : Nat) : Int))
    (h0 : ∀ k i, l.drop i = [] → L (k + 1) (i : Int) = some (.inr ())) {N : Nat} (hN : l.length < N) :
    (Option.bind (L N 0) fun r0 => (match r0 with | .inl r1 => (some r1) | .inr r1 => (some (- (1 : Int))))) = some (place p l) := by
  have := idx_loop h1 h0 l 0 N rfl hN
  rw [show ((0 : Nat) : Int) = 0 from rfl] at this
  rw [this, Option.bind_some, place]
  cases l.findIdx? p with
  | none => rfl
  | some j => simp
theorem place_nonneg {α : Type} (p : α → Bool) (l : List α) : decide ((0 : Int) ≤ place p l) = l.any p := by
  unfold place
  cases h : l.findIdx? p with
  | none =>
    simp only [List.findIdx?_eq_none_iff] at h
    have : l.any p = false := by simpa using h
    rw [this]
    rfl
  | some j =>
    have : l.any p = true := by
      rw [List.any_eq_true]
      obtain ⟨h1, h2, _⟩ := List.findIdx?_eq_some_iff_getElem.1 h
      exact ⟨_, List.getElem_mem h1, h2⟩
    rw [this]
    simp
def within (n lo hi : Int) : Bool := decide (lo ≤ n ∧ n ≤ hi)
theorem within_iff {n lo hi : Int} : within n lo hi = true ↔ lo ≤ n ∧ n ≤ hi := by simp [within]
theorem bif_bif {α : Type} (a b : Bool) (x y : α) : (bif a then (bif b then x else y) else y) = bif a && b then x else y := by cases a <;> rfl
end Go.VM

set_option linter.unusedVariables false
set_option linter.unusedSimpArgs false
namespace Go.VM
def I64 (z : Int) : Prop := -9223372036854775808 ≤ z ∧ z < 9223372036854775808

theorem bif_sf (b c : Bool) : (bif b then some c else some false) = some (b && c) := by cases b <;> rfl
theorem bif_tf (b : Bool) : (bif b then some true else some false) = some b := by cases b <;> rfl
theorem bif_ft (b : Bool) : (bif b then some false else some true) = some (!b) := by cases b <;> rfl

theorem m74_eq (N : Nat) (a b c : Int) : m74 N a b c = some (within a b c) := by
  unfold m74 within
  by_cases h1 : b ≤ a <;> by_cases h2 : a ≤ c <;> simp [h1, h2]
theorem m79_eq (N : Nat) (a b c : Int) : m79 N a b c = some (within a b c) := m74_eq N a b c
theorem m161_eq (N : Nat) (a b c : Int) : m161 N a b c = some (within a b c) := m74_eq N a b c

theorem m117_eq {N : Nat} {l : List Int} (v : Int) (hN : l.length < N) (hl : l.length < 4611686018427387904) : m117 N l v = some (place (fun x => decide (v = x)) l) := by
  unfold m117
  refine idx_fun (L := fun k i => m117_l0 N k l v ((l.length : Nat) : Int) i) (fun k i x r h => ?_) (fun k i h => ?_) hN
  · simp only [m117_l0, lt_drop h, inB_drop h, rd_drop h, wrap_drop h hl, cond_true]
  · simp only [m117_l0, ge_drop h, cond_false]
theorem m75_eq {N : Nat} {l : List Int} (v : Int) (hN : l.length < N) (hl : l.length < 4611686018427387904) : m75 N l v = some (l.any fun x => decide (v = x)) := by
  unfold m75
  rw [m117_eq v hN hl, Option.bind_some, place_nonneg, bif_tf]

/-- A field that is right, in frames of so many words. -/
def fOK (w : Int) (f : D2) : Bool := within f.1 1 (w - 1) && (decide (1 ≤ f.2.2.1) && (within f.2.1 0 (12 - f.2.2.1) && (within f.2.2.2.2.1 (-1000) 1000 && (within f.2.2.2.2.2.1 1 1000 && (within f.2.2.2.2.2.2.1 (-1000000) 1000000 && (decide (f.2.2.2.2.2.2.2.1 = 1 ∨ f.2.2.2.2.2.2.2.1 = 2 ∨ f.2.2.2.2.2.2.2.1 = 4) && within f.2.2.2.2.2.2.2.2 0 (f.2.2.2.2.2.2.2.1 - 1)))))))

theorem any124 (v : Int) : ([1, 2, 4] : List Int).any (fun x => decide (v = x)) = decide (v = 1 ∨ v = 2 ∨ v = 4) := by
  simp [List.any_cons]
theorem m76_eq {N : Nat} (hN : 4 < N) (f : D2) (w : Int) (hw : 2 ≤ w ∧ w ≤ 32) (hs : I64 f.2.2.1) : m76 N f.1 f.2.1 f.2.2.1 f.2.2.2.1 f.2.2.2.2.1 f.2.2.2.2.2.1 f.2.2.2.2.2.2.1 f.2.2.2.2.2.2.2.1 f.2.2.2.2.2.2.2.2 w = some (fOK w f) := by
  unfold m76
  have e1 : Go.IntKind.wrap .i64 (w - 1) = w - 1 := wrap64 (by omega) (by omega)
  simp only [m74_eq, Option.bind_some, e1]
  rw [m75_eq (l := [1, 2, 4]) _ (by simp; omega) (by simp)]
  simp only [any124, Option.bind_some]
  by_cases h2 : 1 ≤ f.2.2.1
  · have e2 : Go.IntKind.wrap .i64 (12 - f.2.2.1) = 12 - f.2.2.1 := wrap64 (by have := hs.2; omega) (by omega)
    rw [e2]
    by_cases h3 : f.2.2.2.2.2.2.2.1 = 1 ∨ f.2.2.2.2.2.2.2.1 = 2 ∨ f.2.2.2.2.2.2.2.1 = 4
    · have e3 : Go.IntKind.wrap .i64 (f.2.2.2.2.2.2.2.1 - 1) = f.2.2.2.2.2.2.2.1 - 1 := wrap64 (by omega) (by omega)
      rw [e3]
      simp only [bif_tf, bif_sf, fOK, Bool.and_true]
    · simp only [h3, decide_false, cond_false, bif_sf, fOK, Bool.false_and, Bool.and_false]
  · simp only [h2, decide_false, cond_false, bif_sf, fOK, Bool.false_and, Bool.and_false]

/-- Whether a field is recorded in a subframe. -/
def inS (f : D2) (s : Int) : Bool := decide (Int.tmod s f.2.2.2.2.2.2.2.1 = f.2.2.2.2.2.2.2.2)
theorem m77_eq {N : Nat} (f : D2) (s : Int) (h : f.2.2.2.2.2.2.2.1 ≠ 0) : m77 N f.1 f.2.1 f.2.2.1 f.2.2.2.1 f.2.2.2.2.1 f.2.2.2.2.2.1 f.2.2.2.2.2.2.1 f.2.2.2.2.2.2.2.1 f.2.2.2.2.2.2.2.2 s = some (inS f s) := by
  unfold m77 inS
  simp only [h, ne_eq, not_false_eq_true, decide_true, cond_true, bif_tf]
end Go.VM
namespace Go.VM
/-! ### Bits -/
theorem ofInt_nat {a : Nat} (h : a < 18446744073709551616) : (BitVec.ofInt 64 (a : Int)).toNat = a := by
  simp [BitVec.toNat_ofInt]
  omega
theorem iand_nat {a b : Nat} (ha : a < 9223372036854775808) (hb : b < 9223372036854775808) : iand .i64 (a : Int) (b : Int) = ((a &&& b : Nat) : Int) := by
  show Go.IntKind.wrap .i64 ((BitVec.ofInt 64 (a : Int) &&& BitVec.ofInt 64 (b : Int)).toNat : Int) = _
  rw [BitVec.toNat_and]
  rw [ofInt_nat (by omega), ofInt_nat (by omega)]
  have h := Nat.and_le_left (n := a) (m := b)
  exact wrap64 (by omega) (by omega)
theorem ior_nat {a b : Nat} (ha : a < 9223372036854775808) (hb : b < 9223372036854775808) : ior .i64 (a : Int) (b : Int) = ((a ||| b : Nat) : Int) := by
  show Go.IntKind.wrap .i64 ((BitVec.ofInt 64 (a : Int) ||| BitVec.ofInt 64 (b : Int)).toNat : Int) = _
  rw [BitVec.toNat_or]
  rw [ofInt_nat (by omega), ofInt_nat (by omega)]
  have h : a ||| b < 2 ^ 63 := Nat.or_lt_two_pow (by omega) (by omega)
  exact wrap64 (by omega) (by omega)
theorem ishl_nat {a n : Nat} (hn : n < 64) (h : a * 2 ^ n < 9223372036854775808) : ishl .i64 (a : Int) (n : Int) = ((a * 2 ^ n : Nat) : Int) := by
  unfold ishl
  have : Go.IntKind.bits .i64 = 64 := rfl
  rw [this, Int.toNat_natCast, Nat.min_eq_left (by omega)]
  have e : (a : Int) * 2 ^ n = ((a * 2 ^ n : Nat) : Int) := by simp
  rw [e]
  exact wrap64 (by omega) (by omega)
theorem ishr_nat {a n : Nat} (hn : n < 64) : ishr .i64 (a : Int) (n : Int) = ((a / 2 ^ n : Nat) : Int) := by
  unfold ishr
  have : Go.IntKind.bits .i64 = 64 := rfl
  rw [this, Int.toNat_natCast, Nat.min_eq_left (by omega)]
  have e : (2 : Int) ^ n = ((2 ^ n : Nat) : Int) := by simp
  rw [e, Int.fdiv_eq_ediv_of_nonneg _ (Int.natCast_nonneg _)]
  rfl

/-- The bits of a field. -/
def maskN (f : D2) : Nat := (2 ^ f.2.2.1.toNat - 1) * 2 ^ f.2.1.toNat
theorem pow_le12 {n : Nat} (h : n ≤ 12) : 2 ^ n ≤ 4096 := by
  have := Nat.pow_le_pow_right (n := 2) (by omega) h
  simpa using this
theorem mask_lt {f : D2} {w : Int} (h : fOK w f = true) : maskN f < 4096 ∧ 1 ≤ f.2.2.1.toNat ∧ f.2.1.toNat + f.2.2.1.toNat ≤ 12 ∧ 0 ≤ f.2.1 ∧ 1 ≤ f.2.2.1 := by
  simp only [fOK, Bool.and_eq_true, within_iff, decide_eq_true_eq] at h
  obtain ⟨_, h2, h3, _⟩ := h
  have hs : f.2.1.toNat + f.2.2.1.toNat ≤ 12 := by omega
  refine ⟨?_, by omega, hs, h3.1, h2⟩
  unfold maskN
  have e : (2 ^ f.2.2.1.toNat - 1) * 2 ^ f.2.1.toNat < 2 ^ f.2.2.1.toNat * 2 ^ f.2.1.toNat := by
    apply Nat.mul_lt_mul_of_pos_right
    · have := Nat.two_pow_pos f.2.2.1.toNat
      omega
    · exact Nat.two_pow_pos _
  rw [← Nat.pow_add] at e
  have := pow_le12 (n := f.2.2.1.toNat + f.2.1.toNat) (by omega)
  omega
theorem m78_eq {N : Nat} (f : D2) {w : Int} (h : fOK w f = true) : m78 N f.1 f.2.1 f.2.2.1 f.2.2.2.1 f.2.2.2.2.1 f.2.2.2.2.2.1 f.2.2.2.2.2.2.1 f.2.2.2.2.2.2.2.1 f.2.2.2.2.2.2.2.2 = some (maskN f : Int) := by
  obtain ⟨h1, h2, h3, h4, h5⟩ := mask_lt h
  unfold m78
  simp only [h4, show (0 : Int) ≤ f.2.2.1 from by omega, decide_true, cond_true]
  obtain ⟨b, hb⟩ : ∃ b : Nat, f.2.1 = b := ⟨f.2.1.toNat, by omega⟩
  obtain ⟨s, hs⟩ : ∃ s : Nat, f.2.2.1 = s := ⟨f.2.2.1.toNat, by omega⟩
  simp only [maskN, hb, hs, Int.toNat_natCast] at *
  have hp := pow_le12 (n := s) (by omega)
  have hp2 := Nat.two_pow_pos s
  rw [show (1 : Int) = ((1 : Nat) : Int) from rfl, ishl_nat (by omega) (by omega), Nat.one_mul]
  have e : ((2 ^ s : Nat) : Int) - ((1 : Nat) : Int) = ((2 ^ s - 1 : Nat) : Int) := by omega
  rw [e, wrap64 (by omega) (by omega), ishl_nat (by omega) (by omega)]

theorem mask_bit (f : D2) (j : Nat) : (maskN f).testBit j = (decide (f.2.1.toNat ≤ j) && decide (j < f.2.1.toNat + f.2.2.1.toNat)) := by
  unfold maskN
  rw [Nat.testBit_mul_two_pow]
  by_cases h : f.2.1.toNat ≤ j
  · simp only [h, decide_true, Bool.true_and]
    rw [Nat.testBit_two_pow_sub_one]
    simp
    omega
  · simp [h]
end Go.VM

set_option linter.unusedVariables false
set_option linter.unusedSimpArgs false
namespace Go.VM
def syncE (v : Int) (before : List Int) : Bool := within v 0 4095 && !(before.any fun x => decide (v = x))
def syncOK (s0 s1 s2 s3 : Int) : Bool := syncE s0 [] && (syncE s1 [s0] && (syncE s2 [s0, s1] && syncE s3 [s0, s1, s2]))

theorem inB4 {i : Int} (h0 : 0 ≤ i) (h : i < 4) : inB i 4 = true := inB_int h0 h
section
variable {N : Nat} {w s0 s1 s2 s3 : Int} {fs : List D2}
theorem m27_step (hN : 4 < N) (k : Nat) (i : Nat) (hi : i < 4) : m27_l0 N (k + 1) w s0 s1 s2 s3 fs s0 s1 s2 s3 (i : Int) = bif syncE ([s0, s1, s2, s3].getD i 0) ([s0, s1, s2, s3].take i) then m27_l0 N k w s0 s1 s2 s3 fs s0 s1 s2 s3 ((i + 1 : Nat) : Int) else some (.inl 120) := by
  have e : (i : Int) < 4 := by omega
  have e1 : rd (0 : Int) [s0, s1, s2, s3] (i : Int) = [s0, s1, s2, s3].getD i 0 := by simp [rd]
  simp only [m27_l0, e, decide_true, cond_true, m74_eq, Option.bind_some, e1]
  rw [show List.length [s0, s1, s2, s3] = 4 from rfl, inB4 (by omega) e]
  simp only [cond_true, Int.toNat_natCast]
  rw [m75_eq _ (by simp; omega) (by simp; omega)]
  simp only [Option.bind_some]
  have e2 : decide ((0 : Int) ≤ (i : Int)) = true := by simp
  have e3 : decide ((i : Int) ≤ (4 : Nat)) = true := by simp; omega
  rw [e2, e3, wrap_nat (by omega)]
  simp only [Bool.and_self, cond_true, syncE]
  cases within ([s0, s1, s2, s3].getD i 0) 0 4095 with
  | false => simp
  | true => cases ([s0, s1, s2, s3].take i).any (fun x => decide ([s0, s1, s2, s3].getD i 0 = x)) <;> simp
theorem m27_l0_eq (hN : 4 < N) : m27_l0 N N w s0 s1 s2 s3 fs s0 s1 s2 s3 0 = some (bif syncOK s0 s1 s2 s3 then .inr (w, (s0, (s1, (s2, (s3, fs))))) else .inl 120) := by
  obtain ⟨k, rfl⟩ : ∃ k, N = k + 5 := ⟨N - 5, by omega⟩
  have a0 := m27_step (w := w) (s0 := s0) (s1 := s1) (s2 := s2) (s3 := s3) (fs := fs) hN (k + 4) 0 (by omega)
  have a1 := m27_step (w := w) (s0 := s0) (s1 := s1) (s2 := s2) (s3 := s3) (fs := fs) hN (k + 3) 1 (by omega)
  have a2 := m27_step (w := w) (s0 := s0) (s1 := s1) (s2 := s2) (s3 := s3) (fs := fs) hN (k + 2) 2 (by omega)
  have a3 := m27_step (w := w) (s0 := s0) (s1 := s1) (s2 := s2) (s3 := s3) (fs := fs) hN (k + 1) 3 (by omega)
  have a4 : m27_l0 (k + 5) (k + 1) w s0 s1 s2 s3 fs s0 s1 s2 s3 ((3 + 1 : Nat) : Int) = some (.inr (w, (s0, (s1, (s2, (s3, fs)))))) := rfl
  rw [show ((0 : Nat) : Int) = 0 from rfl] at a0
  rw [a0, a1, a2, a3, a4]
  simp only [syncOK, List.take, List.getD_cons_zero, List.getD_cons_succ]
  cases syncE s0 [] <;> cases syncE s1 [s0] <;> cases syncE s2 [s0, s1] <;> cases syncE s3 [s0, s1, s2] <;> rfl

theorem m27_l1_eq (hN : 4 < N) (hw : 2 ≤ w ∧ w ≤ 32) (hf : ∀ f, f ∈ fs → I64 f.2.2.1) (hl : fs.length < 4611686018427387904) : ∀ (r : List D2) (i k : Nat), fs.drop i = r → r.length < k → m27_l1 N k w s0 s1 s2 s3 fs fs ((fs.length : Nat) : Int) (i : Int) = some (bif r.all (fOK w) then .inr (w, (s0, (s1, (s2, (s3, fs))))) else .inl 120)
  | [], i, k, h, hk => by
    obtain ⟨k, rfl⟩ : ∃ q, k = q + 1 := ⟨k - 1, by simp at hk; omega⟩
    simp only [m27_l1, ge_drop h, cond_false]
    simp
  | x :: r, i, k, h, hk => by
    obtain ⟨k, rfl⟩ : ∃ q, k = q + 1 := ⟨k - 1, by simp at hk; omega⟩
    have hx : x ∈ fs := List.mem_of_getElem? (drop_get h)
    simp only [m27_l1, lt_drop h, inB_drop h, rd_drop h, wrap_drop h hl, cond_true]
    rw [m76_eq hN x w hw (hf x hx), Option.bind_some]
    have ih := m27_l1_eq hN hw hf hl r (i + 1) k (succ_drop h) (by simp at hk; omega)
    cases hx : fOK w x with
    | false => simp [hx]
    | true => 
      simp only [cond_true, List.all_cons, hx, Bool.true_and]
      exact ih
end
end Go.VM

set_option linter.unusedVariables false
set_option linter.unusedSimpArgs false
namespace Go.VM
def overlap (a b : D2) : Bool := decide (a.1 = b.1 ∧ a.2.1 < b.2.1 + b.2.2.1 ∧ b.2.1 < a.2.1 + a.2.2.1)
def meetS (s : Int) (a b : D2) : Bool := inS a s && (inS b s && overlap a b)
/-- No field meets an earlier one. -/
def clear (m : D2 → D2 → Bool) : List D2 → List D2 → Bool
  | gs, [] => true
  | gs, x :: r => !(gs.any (m x)) && clear m (gs ++ [x]) r
def hasBit (g : D2) (j : Nat) : Bool := decide (g.2.1.toNat ≤ j) && decide (j < g.2.1.toNat + g.2.2.1.toNat)

/-- What the used bits are. -/
def UsedI (w s : Int) (gs : List D2) (u : List Int) : Prop := u.length = w.toNat ∧ ∀ wd : Nat, wd < w.toNat → ∃ n : Nat, u[wd]? = some (n : Int) ∧ n < 4096 ∧ ∀ j, n.testBit j = gs.any fun g => inS g s && (decide (g.1 = (wd : Int)) && hasBit g j)

theorem used_nil (w s : Int) : UsedI w s [] (List.replicate w.toNat 0) := by
  refine ⟨by simp, fun wd h => ⟨0, by simp [h], by omega, fun j => by simp⟩⟩

theorem and_ne {n m : Nat} : (n &&& m ≠ 0) ↔ ∃ j, n.testBit j = true ∧ m.testBit j = true := by
  constructor
  · intro h
    obtain ⟨j, hj⟩ := Nat.exists_testBit_of_ne_zero h
    rw [Nat.testBit_and, Bool.and_eq_true] at hj
    exact ⟨j, hj⟩
  · rintro ⟨j, h1, h2⟩ h
    have : (n &&& m).testBit j = true := by rw [Nat.testBit_and, h1, h2]; rfl
    rw [h] at this
    simp at this

theorem fOK_word {w : Int} {f : D2} (h : fOK w f = true) : 1 ≤ f.1 ∧ f.1 ≤ w - 1 := by
  simp only [fOK, Bool.and_eq_true, within_iff] at h
  exact h.1
theorem fOK_every {w : Int} {f : D2} (h : fOK w f = true) : f.2.2.2.2.2.2.2.1 = 1 ∨ f.2.2.2.2.2.2.2.1 = 2 ∨ f.2.2.2.2.2.2.2.1 = 4 := by
  simp only [fOK, Bool.and_eq_true, within_iff, decide_eq_true_eq] at h
  exact h.2.2.2.2.2.2.1

theorem used_meet {w s : Int} {gs : List D2} {x : D2} {n : Nat} (hg : ∀ g, g ∈ gs → fOK w g = true) (hx : fOK w x = true) (hi : inS x s = true)
    (hb : ∀ j, n.testBit j = gs.any fun g => inS g s && (decide (g.1 = x.1) && hasBit g j)) : decide ((n &&& maskN x) ≠ 0) = gs.any (meetS s x) := by
  have : (n &&& maskN x ≠ 0) ↔ gs.any (meetS s x) = true := by
    rw [and_ne]
    simp only [mask_bit, hb, List.any_eq_true, Bool.and_eq_true, decide_eq_true_eq, meetS, overlap, hi, hasBit]
    obtain ⟨_, p1, p2, p3, p4⟩ := mask_lt hx
    constructor
    · rintro ⟨j, ⟨g, h1, h2, h3, h4, h5⟩, h6, h7⟩
      obtain ⟨_, q1, q2, q3, q4⟩ := mask_lt (hg g h1)
      exact ⟨g, h1, trivial, h2, h3.symm, by omega, by omega⟩
    · rintro ⟨g, h1, _, h2, h3, h4, h5⟩
      obtain ⟨_, q1, q2, q3, q4⟩ := mask_lt (hg g h1)
      by_cases e : x.2.1 ≤ g.2.1
      · exact ⟨g.2.1.toNat, ⟨g, h1, h2, h3.symm, by omega, by omega⟩, by omega, by omega⟩
      · exact ⟨x.2.1.toNat, ⟨g, h1, h2, h3.symm, by omega, by omega⟩, by omega, by omega⟩
  by_cases e : n &&& maskN x = 0
  · have : gs.any (meetS s x) = false := by
      cases h : gs.any (meetS s x) with
      | false => rfl
      | true => exact absurd e (this.2 h)
    simp [e, this]
  · rw [this.1 e]
    simp [e]

theorem used_or {w s : Int} {gs : List D2} {u : List Int} {x : D2} {n : Nat} (hU : UsedI w s gs u) (hx : fOK w x = true) (hi : inS x s = true) (hn : u[x.1.toNat]? = some (n : Int)) (hn4 : n < 4096) :
    UsedI w s (gs ++ [x]) (u.set x.1.toNat ((n ||| maskN x : Nat) : Int)) := by
  obtain ⟨w1, w2⟩ := fOK_word hx
  obtain ⟨h1, h2⟩ := hU
  obtain ⟨p0, p1, p2, p3, p4⟩ := mask_lt hx
  refine ⟨by simp [h1], fun wd hwd => ?_⟩
  obtain ⟨m, q1, q2, q3⟩ := h2 wd hwd
  by_cases e : x.1.toNat = wd
  · subst e
    rw [q1] at hn
    simp only [Option.some.injEq] at hn
    have hn : m = n := by omega
    subst hn
    refine ⟨m ||| maskN x, by simp [List.getElem?_set, h1, hwd], ?_, fun j => ?_⟩
    · have := Nat.or_lt_two_pow (n := 12) (x := m) (y := maskN x) (by omega) (by omega)
      omega
    · rw [Nat.testBit_or, q3, mask_bit, List.any_append]
      congr 1
      have : x.1 = ((x.1.toNat : Nat) : Int) := by omega
      simp [hi, hasBit, ← this]
  · refine ⟨m, by simp [List.getElem?_set, e, q1], q2, fun j => ?_⟩
    rw [q3, List.any_append]
    have : decide (x.1 = (wd : Int)) = false := by
      simp
      omega
    simp [this]
theorem used_skip {w s : Int} {gs : List D2} {u : List Int} {x : D2} (hU : UsedI w s gs u) (hi : inS x s = false) : UsedI w s (gs ++ [x]) u := by
  refine ⟨hU.1, fun wd hwd => ?_⟩
  obtain ⟨m, q1, q2, q3⟩ := hU.2 wd hwd
  exact ⟨m, q1, q2, fun j => by rw [q3, List.any_append]; simp [hi]⟩

section
variable {N : Nat} {w s0 s1 s2 s3 : Int} {fs : List D2}
theorem m27_l3_eq (s s' : Int) (hw : 2 ≤ w ∧ w ≤ 32) (hf : ∀ f, f ∈ fs → fOK w f = true) (hl : fs.length < 4611686018427387904) : ∀ (r : List D2) (i k : Nat) (u : List Int), fs.drop i = r → r.length < k → UsedI w s (fs.take i) u →
    m27_l3 N k w s0 s1 s2 s3 fs s u s' fs ((fs.length : Nat) : Int) (i : Int) = some (bif clear (meetS s) (fs.take i) r then .inr (w, (s0, (s1, (s2, (s3, (fs, s')))))) else .inl 120)
  | [], i, k, u, h, hk, hu => by
    obtain ⟨k, rfl⟩ : ∃ q, k = q + 1 := ⟨k - 1, by simp at hk; omega⟩
    simp only [m27_l3, ge_drop h, cond_false, clear, cond_true]
  | x :: r, i, k, u, h, hk, hu => by
    obtain ⟨k, rfl⟩ : ∃ q, k = q + 1 := ⟨k - 1, by simp at hk; omega⟩
    have hm : x ∈ fs := List.mem_of_getElem? (drop_get h)
    have hx := hf x hm
    have hg : ∀ g, g ∈ fs.take i → fOK w g = true := fun g hg => hf g (List.mem_of_mem_take hg)
    obtain ⟨w1, w2⟩ := fOK_word hx
    have hwd : x.1.toNat < w.toNat := by omega
    obtain ⟨n, q1, q2, q3⟩ := hu.2 _ hwd
    have hin : inB x.1 u.length = true := inB_int (by omega) (by rw [hu.1]; omega)
    have hrd : rd 0 u x.1 = (n : Int) := by
      have : x.1 = ((x.1.toNat : Nat) : Int) := by omega
      rw [this]
      exact rd_nat q1
    obtain ⟨p0, p1, p2, p3, p4⟩ := mask_lt hx
    have htk : fs.take i ++ [x] = fs.take (i + 1) := by
      rw [List.take_add_one, drop_get h]
      rfl
    simp only [m27_l3, lt_drop h, inB_drop h, rd_drop h, wrap_drop h hl, cond_true]
    rw [m77_eq x s (by have := fOK_every hx; omega), Option.bind_some]
    cases hi : inS x s with
    | false =>
      have := m27_l3_eq s s' hw hf hl r (i + 1) k u (succ_drop h) (by simp at hk; omega) (by rw [← htk]; exact used_skip hu hi)
      simp only [cond_false, this, clear, htk]
      have : (fs.take i).any (meetS s x) = false := by simp [meetS, hi]
      rw [this]
      rfl
    | true =>
      simp only [cond_true, hin, hrd, m78_eq x hx, Option.bind_some]
      rw [iand_nat (by omega) (by omega), ior_nat (by omega) (by omega)]
      have e1 : decide (((n &&& maskN x : Nat) : Int) ≠ 0) = (fs.take i).any (meetS s x) := by
        rw [← used_meet (n := n) hg hx hi (fun j => by rw [q3]; rw [show ((x.1.toNat : Nat) : Int) = x.1 from by omega])]
        congr 1
        simp
      rw [e1]
      have := m27_l3_eq s s' hw hf hl r (i + 1) k (wr u x.1 ((n ||| maskN x : Nat) : Int)) (succ_drop h) (by simp at hk; omega) (by rw [← htk]; exact used_or hu hx hi q1 q2)
      rw [this, clear, htk]
      cases (fs.take i).any (meetS s x) <;> rfl

theorem room_small {n b : Nat} (h1 : n < 1000000) (h2 : b ≤ 100) : room n b = true := by
  have := Nat.mul_le_mul (Nat.le_of_lt h1) h2
  simp [room]
  omega
theorem m27_l2_step (hN : fs.length < N) (hw : 2 ≤ w ∧ w ≤ 32) (hf : ∀ f, f ∈ fs → fOK w f = true) (hl : fs.length < 4611686018427387904) (k i : Nat) (hi : i < 4) :
    m27_l2 N (k + 1) w s0 s1 s2 s3 fs (i : Int) = bif clear (meetS i) [] fs then m27_l2 N k w s0 s1 s2 s3 fs ((i + 1 : Nat) : Int) else some (.inl 120) := by
  have e : decide ((i : Int) < 4) = true := by simp; omega
  simp only [m27_l2, e, cond_true, decide_true, show (0 : Int) ≤ w from by omega, Bool.and_self, Bool.true_and]
  rw [room_small (by omega) (by omega)]
  simp only [cond_true]
  have := m27_l3_eq (N := N) (s0 := s0) (s1 := s1) (s2 := s2) (s3 := s3) (i : Int) (i : Int) hw hf hl fs 0 N _ rfl hN (by rw [List.take_zero]; exact used_nil w i)
  rw [show ((0 : Nat) : Int) = 0 from rfl] at this
  rw [this, Option.bind_some, List.take_zero]
  cases clear (meetS i) [] fs with
  | false => rfl
  | true => simp only [cond_true, wrap_nat (show i < 4611686018427387904 by omega)]

/-- A layout that is right. -/
def layOK (w s0 s1 s2 s3 : Int) (fs : List D2) : Bool := within w 2 32 && (decide (fs.length ≤ 16) && (syncOK s0 s1 s2 s3 && (fs.all (fOK w) && (clear (meetS 0) [] fs && (clear (meetS 1) [] fs && (clear (meetS 2) [] fs && clear (meetS 3) [] fs))))))

theorem m27_eq (hN : 100 < N) (hf : ∀ f, f ∈ fs → I64 f.2.2.1) : m27 N w s0 s1 s2 s3 fs = some (bif layOK w s0 s1 s2 s3 fs then 0 else 120) := by
  unfold m27
  rw [m74_eq, Option.bind_some]
  cases h1 : within w 2 32 with
  | false => simp [layOK, h1]
  | true =>
    have hw := within_iff.1 h1
    simp only [cond_true]
    by_cases h2 : fs.length ≤ 16
    · have e2 : decide ((16 : Int) < ((fs.length : Nat) : Int)) = false := by simp; omega
      rw [e2]
      simp only [cond_false]
      rw [m27_l0_eq (by omega), Option.bind_some]
      cases h3 : syncOK s0 s1 s2 s3 with
      | false => simp [layOK, h1, h2, h3]
      | true =>
        simp only [cond_true]
        have := m27_l1_eq (N := N) (s0 := s0) (s1 := s1) (s2 := s2) (s3 := s3) (by omega) hw hf (by omega) fs 0 N rfl (by omega)
        rw [show ((0 : Nat) : Int) = 0 from rfl] at this
        rw [this, Option.bind_some]
        cases h4 : fs.all (fOK w) with
        | false => simp [layOK, h1, h2, h3, h4]
        | true =>
          simp only [cond_true]
          have hf' : ∀ f, f ∈ fs → fOK w f = true := by simpa using h4
          obtain ⟨k, rfl⟩ : ∃ k, N = k + 5 := ⟨N - 5, by omega⟩
          have a0 := m27_l2_step (N := k + 5) (s0 := s0) (s1 := s1) (s2 := s2) (s3 := s3) (by omega) hw hf' (by omega) (k + 4) 0 (by omega)
          have a1 := m27_l2_step (N := k + 5) (s0 := s0) (s1 := s1) (s2 := s2) (s3 := s3) (by omega) hw hf' (by omega) (k + 3) 1 (by omega)
          have a2 := m27_l2_step (N := k + 5) (s0 := s0) (s1 := s1) (s2 := s2) (s3 := s3) (by omega) hw hf' (by omega) (k + 2) 2 (by omega)
          have a3 := m27_l2_step (N := k + 5) (s0 := s0) (s1 := s1) (s2 := s2) (s3 := s3) (by omega) hw hf' (by omega) (k + 1) 3 (by omega)
          have a4 : m27_l2 (k + 5) (k + 1) w s0 s1 s2 s3 fs ((3 + 1 : Nat) : Int) = some (.inr ()) := rfl
          rw [show ((0 : Nat) : Int) = 0 from rfl] at a0
          rw [a0, a1, a2, a3, a4]
          simp only [layOK, h1, h2, h3, h4, decide_true, Bool.true_and]
          rw [show ((1 : Nat) : Int) = 1 from rfl, show ((2 : Nat) : Int) = 2 from rfl, show ((3 : Nat) : Int) = 3 from rfl]
          cases clear (meetS 0) [] fs <;> cases clear (meetS 1) [] fs <;> cases clear (meetS 2) [] fs <;> cases clear (meetS 3) [] fs <;> rfl
    · have e2 : decide ((16 : Int) < ((fs.length : Nat) : Int)) = true := by simp; omega
      simp [layOK, h1, h2, e2]
end
end Go.VM

set_option linter.unusedVariables false
set_option linter.unusedSimpArgs false
namespace Go.VM
def meetA (a b : D2) : Bool := overlap a b && (inS a 0 && inS b 0 || (inS a 1 && inS b 1 || (inS a 2 && inS b 2 || inS a 3 && inS b 3)))
theorem any_meetA (x : D2) : ∀ gs : List D2, gs.any (meetA x) = (gs.any (meetS 0 x) || (gs.any (meetS 1 x) || (gs.any (meetS 2 x) || gs.any (meetS 3 x))))
  | [] => rfl
  | g :: r => by
    simp only [List.any_cons, any_meetA x r, meetA, meetS]
    cases overlap x g <;> simp
    cases inS x 0 && inS g 0 <;> cases inS x 1 && inS g 1 <;> cases inS x 2 && inS g 2 <;> cases inS x 3 && inS g 3 <;> simp
theorem clear_split : ∀ (r gs : List D2), clear meetA gs r = (clear (meetS 0) gs r && (clear (meetS 1) gs r && (clear (meetS 2) gs r && clear (meetS 3) gs r)))
  | [], gs => rfl
  | x :: r, gs => by
    simp only [clear, any_meetA, clear_split r]
    cases gs.any (meetS 0 x) <;> cases gs.any (meetS 1 x) <;> cases gs.any (meetS 2 x) <;> cases gs.any (meetS 3 x) <;> cases clear (meetS 0) (gs ++ [x]) r <;> cases clear (meetS 1) (gs ++ [x]) r <;> cases clear (meetS 2) (gs ++ [x]) r <;> cases clear (meetS 3) (gs ++ [x]) r <;> rfl

section
variable {N : Nat} {w s0 s1 s2 s3 : Int} {fs : List D2}
theorem m28_l1_eq (i : Nat) (hi : i < 4) : ∀ (r : List Int) (kk k : Nat), ([s0, s1, s2, s3].take i).drop kk = r → r.length < k →
    m28_l1 N k w s0 s1 s2 s3 fs (i : Int) (kk : Int) = some (bif r.any (fun x => decide ([s0, s1, s2, s3].getD i 0 = x)) then .inl 120 else .inr (w, (s0, (s1, (s2, (s3, (fs, (i : Int))))))))
  | [], kk, k, h, hk => by
    obtain ⟨k, rfl⟩ : ∃ q, k = q + 1 := ⟨k - 1, by simp at hk; omega⟩
    have := congrArg List.length h
    simp at this
    have e : decide ((kk : Int) < (i : Int)) = false := by simp; omega
    simp only [m28_l1, e, cond_false]
    rfl
  | x :: r, kk, k, h, hk => by
    obtain ⟨k, rfl⟩ : ∃ q, k = q + 1 := ⟨k - 1, by simp at hk; omega⟩
    have hlt := drop_lt h
    have hg := drop_get h
    simp only [List.length_take, List.length_cons, List.length_nil] at hlt
    have e : decide ((kk : Int) < (i : Int)) = true := by simp; omega
    rw [List.getElem?_take_of_lt (by omega)] at hg
    have e1 : rd (0 : Int) [s0, s1, s2, s3] (i : Int) = [s0, s1, s2, s3].getD i 0 := by simp [rd]
    have e2 : rd (0 : Int) [s0, s1, s2, s3] (kk : Int) = x := rd_nat hg
    simp only [m28_l1, e, cond_true, e1, e2]
    rw [show List.length [s0, s1, s2, s3] = 4 from rfl, inB4 (by omega) (by omega), inB4 (by omega) (by omega), wrap_nat (by omega)]
    simp only [cond_true, List.any_cons]
    rw [m28_l1_eq i hi r (kk + 1) k (succ_drop h) (by simp at hk; omega)]
    by_cases e : [s0, s1, s2, s3].getD i 0 = x
    · simp only [e, decide_true, cond_true, Bool.true_or]
    · simp only [e, decide_false, cond_false, Bool.false_or]
theorem m28_l0_step (hN : 4 < N) (k : Nat) (i : Nat) (hi : i < 4) : m28_l0 N (k + 1) w s0 s1 s2 s3 fs (i : Int) = bif syncE ([s0, s1, s2, s3].getD i 0) ([s0, s1, s2, s3].take i) then m28_l0 N k w s0 s1 s2 s3 fs ((i + 1 : Nat) : Int) else some (.inl 120) := by
  have e : (i : Int) < 4 := by omega
  have e1 : rd (0 : Int) [s0, s1, s2, s3] (i : Int) = [s0, s1, s2, s3].getD i 0 := by simp [rd]
  simp only [m28_l0, e, decide_true, cond_true, m79_eq, Option.bind_some, e1]
  rw [show List.length [s0, s1, s2, s3] = 4 from rfl, inB4 (by omega) e]
  have := m28_l1_eq (N := N) (w := w) (s0 := s0) (s1 := s1) (s2 := s2) (s3 := s3) (fs := fs) i hi _ 0 N rfl (by simp; omega)
  rw [show ((0 : Nat) : Int) = 0 from rfl] at this
  simp only [cond_true, this, Option.bind_some, List.drop_zero, syncE]
  cases within ([s0, s1, s2, s3].getD i 0) 0 4095 with
  | false => rfl
  | true => 
    cases ([s0, s1, s2, s3].take i).any (fun x => decide ([s0, s1, s2, s3].getD i 0 = x)) with
    | true => rfl
    | false => simp only [cond_true, cond_false, Bool.true_and, Bool.not_false, wrap_nat (show i < 4611686018427387904 by omega)]
theorem m28_l0_eq (hN : 4 < N) : m28_l0 N N w s0 s1 s2 s3 fs 0 = some (bif syncOK s0 s1 s2 s3 then .inr (w, (s0, (s1, (s2, (s3, fs))))) else .inl 120) := by
  obtain ⟨k, rfl⟩ : ∃ k, N = k + 5 := ⟨N - 5, by omega⟩
  have a0 := m28_l0_step (w := w) (s0 := s0) (s1 := s1) (s2 := s2) (s3 := s3) (fs := fs) hN (k + 4) 0 (by omega)
  have a1 := m28_l0_step (w := w) (s0 := s0) (s1 := s1) (s2 := s2) (s3 := s3) (fs := fs) hN (k + 3) 1 (by omega)
  have a2 := m28_l0_step (w := w) (s0 := s0) (s1 := s1) (s2 := s2) (s3 := s3) (fs := fs) hN (k + 2) 2 (by omega)
  have a3 := m28_l0_step (w := w) (s0 := s0) (s1 := s1) (s2 := s2) (s3 := s3) (fs := fs) hN (k + 1) 3 (by omega)
  have a4 : m28_l0 (k + 5) (k + 1) w s0 s1 s2 s3 fs ((3 + 1 : Nat) : Int) = some (.inr (w, (s0, (s1, (s2, (s3, fs)))))) := rfl
  rw [show ((0 : Nat) : Int) = 0 from rfl] at a0
  rw [a0, a1, a2, a3, a4]
  simp only [syncOK, List.take, List.getD_cons_zero, List.getD_cons_succ]
  cases syncE s0 [] <;> cases syncE s1 [s0] <;> cases syncE s2 [s0, s1] <;> cases syncE s3 [s0, s1, s2] <;> rfl

theorem ref_field (w : Int) (f : D2) (hw : 2 ≤ w ∧ w ≤ 32) (hs : I64 f.2.2.1) {ρ : Type} (A B : Option ρ) :
    (bif within f.1 1 (w - 1) then (bif within f.2.1 0 12 then (bif within f.2.2.1 1 12 then (bif decide (12 < Go.IntKind.wrap .i64 (f.2.1 + f.2.2.1)) then B else (bif within f.2.2.2.2.1 (-1000) 1000 then (bif within f.2.2.2.2.2.1 1 1000 then (bif within f.2.2.2.2.2.2.1 (-1000000) 1000000 then
      (bif decide (f.2.2.2.2.2.2.2.1 ≠ 1) then (bif decide (f.2.2.2.2.2.2.2.1 ≠ 2) then (bif decide (f.2.2.2.2.2.2.2.1 ≠ 4) then B else (bif within f.2.2.2.2.2.2.2.2 0 (Go.IntKind.wrap .i64 (f.2.2.2.2.2.2.2.1 - 1)) then A else B)) else (bif within f.2.2.2.2.2.2.2.2 0 (Go.IntKind.wrap .i64 (f.2.2.2.2.2.2.2.1 - 1)) then A else B)) else (bif within f.2.2.2.2.2.2.2.2 0 (Go.IntKind.wrap .i64 (f.2.2.2.2.2.2.2.1 - 1)) then A else B)) else B) else B) else B)) else B) else B) else B) = bif fOK w f then A else B := by
  by_cases h : fOK w f = true
  · have h' := h
    simp only [fOK, Bool.and_eq_true, within_iff, decide_eq_true_eq] at h'
    obtain ⟨h1, h2, h3, h4, h5, h6, h7, h8⟩ := h'
    have e1 : within f.2.1 0 12 = true := within_iff.2 (by omega)
    have e2 : within f.2.2.1 1 12 = true := within_iff.2 (by omega)
    have e3 : Go.IntKind.wrap .i64 (f.2.1 + f.2.2.1) = f.2.1 + f.2.2.1 := wrap64 (by omega) (by omega)
    have e4 : Go.IntKind.wrap .i64 (f.2.2.2.2.2.2.2.1 - 1) = f.2.2.2.2.2.2.2.1 - 1 := wrap64 (by omega) (by omega)
    have e5 : decide (12 < f.2.1 + f.2.2.1) = false := by simp; omega
    rw [h, within_iff.2 h1, e1, e2, e3, e4, e5, within_iff.2 h4, within_iff.2 h5, within_iff.2 h6, within_iff.2 h8]
    simp only [cond_true, cond_false]
    rcases h7 with h7 | h7 | h7 <;> simp [h7]
  · have hf : fOK w f = false := by simpa using h
    rw [hf, cond_false]
    cases a1 : within f.1 1 (w - 1) <;> simp only [cond_true, cond_false]
    cases a2 : within f.2.1 0 12 <;> simp only [cond_true, cond_false]
    cases a3 : within f.2.2.1 1 12 <;> simp only [cond_true, cond_false]
    have b2 := within_iff.1 a2
    have b3 := within_iff.1 a3
    have e3 : Go.IntKind.wrap .i64 (f.2.1 + f.2.2.1) = f.2.1 + f.2.2.1 := wrap64 (by omega) (by omega)
    rw [e3]
    by_cases c : 12 < f.2.1 + f.2.2.1
    · simp [c]
    · simp only [c, decide_false, cond_false]
      cases a4 : within f.2.2.2.2.1 (-1000) 1000 <;> simp only [cond_true, cond_false]
      cases a5 : within f.2.2.2.2.2.1 1 1000 <;> simp only [cond_true, cond_false]
      cases a6 : within f.2.2.2.2.2.2.1 (-1000000) 1000000 <;> simp only [cond_true, cond_false]
      have b6 : within f.2.1 0 (12 - f.2.2.1) = true := within_iff.2 (by omega)
      have b7 : decide (1 ≤ f.2.2.1) = true := by simp; omega
      simp only [fOK, a1, b7, b6, a4, a5, a6, Bool.true_and] at hf
      by_cases c1 : f.2.2.2.2.2.2.2.1 = 1
      · simp [c1] at hf
        have : Go.IntKind.wrap .i64 0 = 0 := rfl
        simp [c1, hf, this]
      · by_cases c2 : f.2.2.2.2.2.2.2.1 = 2
        · simp [c2] at hf
          have : Go.IntKind.wrap .i64 1 = 1 := rfl
          simp [c2, hf, this]
        · by_cases c4 : f.2.2.2.2.2.2.2.1 = 4
          · simp [c4] at hf
            have : Go.IntKind.wrap .i64 3 = 3 := rfl
            simp [c4, hf, this]
          · simp [c1, c2, c4]
theorem m28_l2_eq (hw : 2 ≤ w ∧ w ≤ 32) (hf : ∀ f, f ∈ fs → I64 f.2.2.1) (hl : fs.length < 4611686018427387904) : ∀ (r : List D2) (i k : Nat), fs.drop i = r → r.length < k → m28_l2 N k w s0 s1 s2 s3 fs (i : Int) = some (bif r.all (fOK w) then .inr (w, (s0, (s1, (s2, (s3, fs))))) else .inl 120)
  | [], i, k, h, hk => by
    obtain ⟨k, rfl⟩ : ∃ q, k = q + 1 := ⟨k - 1, by simp at hk; omega⟩
    simp only [m28_l2, ge_drop h, cond_false]
    rfl
  | x :: r, i, k, h, hk => by
    obtain ⟨k, rfl⟩ : ∃ q, k = q + 1 := ⟨k - 1, by simp at hk; omega⟩
    have hx : x ∈ fs := List.mem_of_getElem? (drop_get h)
    have e1 : Go.IntKind.wrap .i64 (w - 1) = w - 1 := wrap64 (by omega) (by omega)
    simp only [m28_l2, lt_drop h, inB_drop h, rd_drop h, wrap_drop h hl, cond_true, m79_eq, Option.bind_some, e1]
    rw [ref_field w x hw (hf x hx), m28_l2_eq hw hf hl r (i + 1) k (succ_drop h) (by simp at hk; omega)]
    cases hx : fOK w x <;> simp [hx]

theorem m80_l0_step (a b : D2) (ha : a.2.2.2.2.2.2.2.1 ≠ 0) (hb : b.2.2.2.2.2.2.2.1 ≠ 0) (k : Nat) (i : Nat) (hi : i < 4) :
    m80_l0 N (k + 1) a.1 a.2.1 a.2.2.1 a.2.2.2.1 a.2.2.2.2.1 a.2.2.2.2.2.1 a.2.2.2.2.2.2.1 a.2.2.2.2.2.2.2.1 a.2.2.2.2.2.2.2.2 b.1 b.2.1 b.2.2.1 b.2.2.2.1 b.2.2.2.2.1 b.2.2.2.2.2.1 b.2.2.2.2.2.2.1 b.2.2.2.2.2.2.2.1 b.2.2.2.2.2.2.2.2 (i : Int) =
      bif inS a i && inS b i then some (.inl true) else m80_l0 N k a.1 a.2.1 a.2.2.1 a.2.2.2.1 a.2.2.2.2.1 a.2.2.2.2.2.1 a.2.2.2.2.2.2.1 a.2.2.2.2.2.2.2.1 a.2.2.2.2.2.2.2.2 b.1 b.2.1 b.2.2.1 b.2.2.2.1 b.2.2.2.2.1 b.2.2.2.2.2.1 b.2.2.2.2.2.2.1 b.2.2.2.2.2.2.2.1 b.2.2.2.2.2.2.2.2 ((i + 1 : Nat) : Int) := by
  have e : decide ((i : Int) < 4) = true := by simp; omega
  simp only [m80_l0, e, cond_true, ne_eq, ha, hb, not_false_eq_true, decide_true, wrap_nat (show i < 4611686018427387904 by omega)]
  unfold inS
  cases decide (Int.tmod (i : Int) a.2.2.2.2.2.2.2.1 = a.2.2.2.2.2.2.2.2) <;> cases decide (Int.tmod (i : Int) b.2.2.2.2.2.2.2.1 = b.2.2.2.2.2.2.2.2) <;> rfl
theorem m80_eq {w : Int} (hN : 4 < N) (a b : D2) (ha : fOK w a = true) (hb : fOK w b = true) :
    m80 N a.1 a.2.1 a.2.2.1 a.2.2.2.1 a.2.2.2.2.1 a.2.2.2.2.2.1 a.2.2.2.2.2.2.1 a.2.2.2.2.2.2.2.1 a.2.2.2.2.2.2.2.2 b.1 b.2.1 b.2.2.1 b.2.2.2.1 b.2.2.2.2.1 b.2.2.2.2.2.1 b.2.2.2.2.2.2.1 b.2.2.2.2.2.2.2.1 b.2.2.2.2.2.2.2.2 = some (meetA a b) := by
  have ha' := fOK_every ha
  have hb' := fOK_every hb
  obtain ⟨_, p1, p2, p3, p4⟩ := mask_lt ha
  obtain ⟨_, q1, q2, q3, q4⟩ := mask_lt hb
  have e1 : Go.IntKind.wrap .i64 (b.2.1 + b.2.2.1) = b.2.1 + b.2.2.1 := wrap64 (by omega) (by omega)
  have e2 : Go.IntKind.wrap .i64 (a.2.1 + a.2.2.1) = a.2.1 + a.2.2.1 := wrap64 (by omega) (by omega)
  unfold m80 meetA overlap
  rw [e1, e2]
  by_cases c1 : a.1 = b.1
  · by_cases c2 : b.2.1 + b.2.2.1 ≤ a.2.1
    · have : ¬ (a.2.1 < b.2.1 + b.2.2.1) := by omega
      simp [c1, c2, this]
    · by_cases c3 : a.2.1 + a.2.2.1 ≤ b.2.1
      · have : ¬ (b.2.1 < a.2.1 + a.2.2.1) := by omega
        simp [c1, c2, c3, this]
      · have d1 : a.2.1 < b.2.1 + b.2.2.1 := by omega
        have d2 : b.2.1 < a.2.1 + a.2.2.1 := by omega
        have f1 : decide (a.1 ≠ b.1) = false := by simp [c1]
        have f2 : decide (b.2.1 + b.2.2.1 ≤ a.2.1) = false := by simp [c2]
        have f3 : decide (a.2.1 + a.2.2.1 ≤ b.2.1) = false := by simp [c3]
        have f4 : decide (a.1 = b.1 ∧ a.2.1 < b.2.1 + b.2.2.1 ∧ b.2.1 < a.2.1 + a.2.2.1) = true := by simp [c1, d1, d2]
        rw [f1, f2, f3, f4]
        simp only [cond_false, Bool.true_and]
        obtain ⟨k, rfl⟩ : ∃ k, N = k + 5 := ⟨N - 5, by omega⟩
        have a0 := m80_l0_step (N := k + 5) a b (by omega) (by omega) (k + 4) 0 (by omega)
        have a1 := m80_l0_step (N := k + 5) a b (by omega) (by omega) (k + 3) 1 (by omega)
        have a2 := m80_l0_step (N := k + 5) a b (by omega) (by omega) (k + 2) 2 (by omega)
        have a3 := m80_l0_step (N := k + 5) a b (by omega) (by omega) (k + 1) 3 (by omega)
        rw [show ((0 : Nat) : Int) = 0 from rfl] at a0
        rw [a0, a1, a2, a3]
        have a4 : m80_l0 (k + 5) (k + 1) a.1 a.2.1 a.2.2.1 a.2.2.2.1 a.2.2.2.2.1 a.2.2.2.2.2.1 a.2.2.2.2.2.2.1 a.2.2.2.2.2.2.2.1 a.2.2.2.2.2.2.2.2 b.1 b.2.1 b.2.2.1 b.2.2.2.1 b.2.2.2.2.1 b.2.2.2.2.2.1 b.2.2.2.2.2.2.1 b.2.2.2.2.2.2.2.1 b.2.2.2.2.2.2.2.2 ((3 + 1 : Nat) : Int) = some (.inr ()) := rfl
        rw [a4, show ((1 : Nat) : Int) = 1 from rfl, show ((2 : Nat) : Int) = 2 from rfl, show ((3 : Nat) : Int) = 3 from rfl]
        cases inS a 0 && inS b 0 <;> cases inS a 1 && inS b 1 <;> cases inS a 2 && inS b 2 <;> cases inS a 3 && inS b 3 <;> rfl
  · simp [c1]

theorem m28_l4_eq (hN : 4 < N) (hf : ∀ f, f ∈ fs → fOK w f = true) (hl : fs.length < 4611686018427387904) (i : Nat) {x : D2} (hx : fs[i]? = some x) : ∀ (r : List D2) (kk k : Nat), (fs.take i).drop kk = r → r.length < k →
    m28_l4 N k w s0 s1 s2 s3 fs (i : Int) (kk : Int) = some (bif r.any (meetA x) then .inl 120 else .inr (w, (s0, (s1, (s2, (s3, (fs, (i : Int))))))))
  | [], kk, k, h, hk => by
    obtain ⟨k, rfl⟩ : ∃ q, k = q + 1 := ⟨k - 1, by simp at hk; omega⟩
    have := congrArg List.length h
    have hi := (List.getElem?_eq_some_iff.1 hx).1
    simp at this
    have e : decide ((kk : Int) < (i : Int)) = false := by simp; omega
    simp only [m28_l4, e, cond_false]
    rfl
  | y :: r, kk, k, h, hk => by
    obtain ⟨k, rfl⟩ : ∃ q, k = q + 1 := ⟨k - 1, by simp at hk; omega⟩
    have hlt := drop_lt h
    have hg := drop_get h
    have hi := (List.getElem?_eq_some_iff.1 hx).1
    simp only [List.length_take] at hlt
    have e : decide ((kk : Int) < (i : Int)) = true := by simp; omega
    rw [List.getElem?_take_of_lt (by omega)] at hg
    simp only [m28_l4, e, cond_true, rd_nat hx, rd_nat hg, inB_nat hi, inB_nat (show kk < fs.length by omega)]
    rw [m80_eq hN x y (hf x (List.mem_of_getElem? hx)) (hf y (List.mem_of_getElem? hg)), Option.bind_some, wrap_nat (by omega), m28_l4_eq hN hf hl i hx r (kk + 1) k (succ_drop h) (by simp at hk; omega)]
    simp only [List.any_cons]
    cases meetA x y <;> rfl
theorem m28_l3_eq (hN : 4 < N) (hN2 : fs.length < N) (hf : ∀ f, f ∈ fs → fOK w f = true) (hl : fs.length < 4611686018427387904) : ∀ (r : List D2) (i k : Nat), fs.drop i = r → r.length < k → m28_l3 N k w s0 s1 s2 s3 fs (i : Int) = some (bif clear meetA (fs.take i) r then .inr () else .inl 120)
  | [], i, k, h, hk => by
    obtain ⟨k, rfl⟩ : ∃ q, k = q + 1 := ⟨k - 1, by simp at hk; omega⟩
    simp only [m28_l3, ge_drop h, cond_false]
    rfl
  | x :: r, i, k, h, hk => by
    obtain ⟨k, rfl⟩ : ∃ q, k = q + 1 := ⟨k - 1, by simp at hk; omega⟩
    have hlt := drop_lt h
    have htk : fs.take i ++ [x] = fs.take (i + 1) := by
      rw [List.take_add_one, drop_get h]
      rfl
    have := m28_l4_eq (N := N) (s0 := s0) (s1 := s1) (s2 := s2) (s3 := s3) hN hf hl i (drop_get h) _ 0 N rfl (by simp; omega)
    rw [show ((0 : Nat) : Int) = 0 from rfl] at this
    simp only [m28_l3, lt_drop h, cond_true, this, Option.bind_some, List.drop_zero, clear]
    cases (fs.take i).any (meetA x) with
    | true => rfl
    | false =>
      simp only [cond_false, Bool.not_false, Bool.true_and]
      rw [wrap_drop h hl, m28_l3_eq hN hN2 hf hl r (i + 1) k (succ_drop h) (by simp at hk; omega), htk]
theorem m28_eq (hN : 100 < N) (hf : ∀ f, f ∈ fs → I64 f.2.2.1) : m28 N w s0 s1 s2 s3 fs = some (bif layOK w s0 s1 s2 s3 fs then 0 else 120) := by
  unfold m28
  rw [m79_eq, Option.bind_some]
  cases h1 : within w 2 32 with
  | false => simp [layOK, h1]
  | true =>
    have hw := within_iff.1 h1
    simp only [cond_true]
    by_cases h2 : fs.length ≤ 16
    · have e2 : decide ((16 : Int) < ((fs.length : Nat) : Int)) = false := by simp; omega
      rw [e2]
      simp only [cond_false]
      rw [m28_l0_eq (by omega), Option.bind_some]
      cases h3 : syncOK s0 s1 s2 s3 with
      | false => simp [layOK, h1, h2, h3]
      | true =>
        simp only [cond_true]
        have := m28_l2_eq (N := N) (s0 := s0) (s1 := s1) (s2 := s2) (s3 := s3) hw hf (by omega) fs 0 N rfl (by omega)
        rw [show ((0 : Nat) : Int) = 0 from rfl] at this
        rw [this, Option.bind_some]
        cases h4 : fs.all (fOK w) with
        | false => simp [layOK, h1, h2, h3, h4]
        | true =>
          simp only [cond_true]
          have hf' : ∀ f, f ∈ fs → fOK w f = true := by simpa using h4
          have := m28_l3_eq (N := N) (s0 := s0) (s1 := s1) (s2 := s2) (s3 := s3) (by omega) (by omega) hf' (by omega) fs 0 N rfl (by omega)
          rw [show ((0 : Nat) : Int) = 0 from rfl] at this
          rw [this, Option.bind_some]
          simp only [layOK, h1, h2, h3, h4, decide_true, Bool.true_and, List.take_zero, ← clear_split]
          cases clear meetA [] fs <;> rfl
    · have e2 : decide ((16 : Int) < ((fs.length : Nat) : Int)) = true := by simp; omega
      simp [layOK, h1, h2, e2]
end
end Go.VM

set_option linter.unusedVariables false
set_option linter.unusedSimpArgs false
namespace Go.VM
/-- The subframe of a frame; -1: it is not good. -/
def subf (w s0 s1 s2 s3 : Int) (f : List Int) : Int := bif decide ((f.length : Int) = w) && f.all (fun x => within x 0 4095) then place (fun x => decide (rd 0 f 0 = x)) [s0, s1, s2, s3] else -1

section
variable {N : Nat} {w s0 s1 s2 s3 b : Int} {fs : List D2} {fr : List (List Int)}
theorem m116_eq (N : Nat) (x : Int) : m116 N x = some (!(within x 0 4095)) := by
  unfold m116
  rw [m74_eq, Option.bind_some, bif_ft]
theorem m144_eq {l : List Int} (hN : l.length < N) (hl : l.length < 4611686018427387904) : m144 N l = some (place (fun x => !(within x 0 4095)) l) := by
  unfold m144
  refine idx_fun (L := fun k i => m144_l0 N k l ((l.length : Nat) : Int) i) (l := l) (p := fun x => !(within x 0 4095)) (fun k i x r h => ?_) (fun k i h => ?_) hN
  · simp only [m144_l0, lt_drop h, inB_drop h, rd_drop h, wrap_drop h hl, cond_true, m116_eq, Option.bind_some]
  · simp only [m144_l0, ge_drop h, cond_false]
theorem m110_eq {l : List Int} (hN : l.length < N) (hl : l.length < 4611686018427387904) : m110 N l = some (!(l.all fun x => within x 0 4095)) := by
  unfold m110
  rw [m144_eq hN hl, Option.bind_some, place_nonneg, bif_tf]
  congr 1
  rw [Bool.eq_iff_iff]
  simp

theorem m71_l0_eq (hN : 100 < N) (hw : 2 ≤ w ∧ w ≤ 32) (hl : fr.length ≤ 200) {b0 b1 b2 b3 b4 : Int} {gs : List D2} {fr' : List (List Int)} : ∀ (r : List (List Int)) (i k : Nat) (o : List Int), fr.drop i = r → r.length < k → o.length = i →
    m71_l0 N k w s0 s1 s2 s3 fs b0 b1 b2 b3 b4 gs fr' o fr ((fr.length : Nat) : Int) (i : Int) = some (b0, (b1, (b2, (b3, (b4, (gs, (fr', o ++ r.map (subf w s0 s1 s2 s3))))))))
  | [], i, k, o, h, hk, ho => by
    obtain ⟨k, rfl⟩ : ∃ q, k = q + 1 := ⟨k - 1, by simp at hk; omega⟩
    simp only [m71_l0, ge_drop h, cond_false, List.map_nil, List.append_nil]
  | x :: r, i, k, o, h, hk, ho => by
    obtain ⟨k, rfl⟩ : ∃ q, k = q + 1 := ⟨k - 1, by simp at hk; omega⟩
    have hlt := drop_lt h
    have hroom : ∀ z : Int, room (o ++ [z]).length 8 = true := fun z => room_small (by simp; omega) (by omega)
    have ih : ∀ z : Int, m71_l0 N k w s0 s1 s2 s3 fs b0 b1 b2 b3 b4 gs fr' (o ++ [z]) fr ((fr.length : Nat) : Int) ((i + 1 : Nat) : Int) = some (b0, (b1, (b2, (b3, (b4, (gs, (fr', o ++ (z :: r.map (subf w s0 s1 s2 s3)))))))))  := fun z => by
      rw [m71_l0_eq hN hw hl r (i + 1) k (o ++ [z]) (succ_drop h) (by simp at hk; omega) (by simp [ho])]
      simp
    simp only [m71_l0, lt_drop h, inB_drop h, rd_drop h, wrap_drop h (show fr.length < 4611686018427387904 by omega), cond_true, hroom, ih]
    by_cases c : (x.length : Int) = w
    · simp only [c, decide_true, cond_true]
      rw [m110_eq (by omega) (by omega), Option.bind_some]
      cases c2 : x.all (fun x => within x 0 4095) with
      | false => 
        have : subf w s0 s1 s2 s3 x = -1 := by unfold subf; rw [c2]; simp
        simp [this]
      | true =>
        have e : subf w s0 s1 s2 s3 x = place (fun y => decide (rd 0 x 0 = y)) [s0, s1, s2, s3] := by unfold subf; rw [c2]; simp [c]
        have : inB 0 x.length = true := inB_int (by omega) (by omega)
        simp only [Bool.not_true, cond_false, this, cond_true]
        rw [m117_eq _ (by simp; omega) (by simp), Option.bind_some]
        simp only [List.map_cons, e]
    · have : subf w s0 s1 s2 s3 x = -1 := by unfold subf; simp [c]
      simp only [c, decide_false, cond_false, List.map_cons, this]

theorem layOK_w (h : layOK w s0 s1 s2 s3 fs = true) : 2 ≤ w ∧ w ≤ 32 := by
  simp only [layOK, Bool.and_eq_true, within_iff] at h
  exact h.1
theorem layOK_f (h : layOK w s0 s1 s2 s3 fs = true) : fs.length ≤ 16 ∧ ∀ f, f ∈ fs → fOK w f = true := by
  simp only [layOK, Bool.and_eq_true, decide_eq_true_eq] at h
  exact ⟨h.2.1, by simpa using h.2.2.2.1⟩

/-- A tape, after the errors. -/
def tapeR (w s0 s1 s2 s3 : Int) (fs : List D2) (fr : List (List Int)) : Int ⊕ (Int × (Int × (Int × (Int × (Int × ((List D2) × ((List (List Int)) × ((List Int) × Int)))))))) :=
  bif layOK w s0 s1 s2 s3 fs then (bif decide (fr.length ≤ 200) then .inr (w, (s0, (s1, (s2, (s3, (fs, (fr, (fr.map (subf w s0 s1 s2 s3), 0)))))))) else .inl 2) else .inl 120
theorem m71_eq (hN : 300 < N) (hf : ∀ f, f ∈ fs → I64 f.2.2.1) : m71 N w s0 s1 s2 s3 fs fr = some (tapeR w s0 s1 s2 s3 fs fr) := by
  unfold m71 tapeR
  rw [m27_eq (by omega) hf, Option.bind_some]
  cases h1 : layOK w s0 s1 s2 s3 fs with
  | false => rfl
  | true =>
    by_cases h2 : fr.length ≤ 200
    · have e2 : decide ((200 : Int) < ((fr.length : Nat) : Int)) = false := by simp; omega
      have := m71_l0_eq (N := N) (s0 := s0) (s1 := s1) (s2 := s2) (s3 := s3) (fs := fs) (by omega) (layOK_w h1) h2 (b0 := w) (b1 := s0) (b2 := s1) (b3 := s2) (b4 := s3) (gs := fs) (fr' := fr) fr 0 N [] rfl (by omega) rfl
      rw [show ((0 : Nat) : Int) = 0 from rfl] at this
      simp only [cond_true, e2, this, h2, decide_true, Option.bind_some, List.nil_append]
      rfl
    · have e2 : decide ((200 : Int) < ((fr.length : Nat) : Int)) = true := by simp; omega
      simp only [cond_true, e2, h2, decide_false]
      rfl

/-! The reference. -/
theorem m73_l1_eq (x : Int) (f : List Int) (hx : f[0]? = some x) : ∀ (r : List Int) (i k : Nat), [s0, s1, s2, s3].drop i = r → r.length < k →
    m73_l1 N k f w s0 s1 s2 s3 fs (i : Int) = some (match r.findIdx? (fun y => decide (x = y)) with
      | some j => .inl ((i + j : Nat) : Int)
      | none => .inr ()) := by
  refine idx_loop (L := fun k i => m73_l1 N k f w s0 s1 s2 s3 fs i) (fun k i y r h => ?_) (fun k i h => ?_)
  · have hlt := drop_lt h
    simp only [List.length_cons, List.length_nil] at hlt
    have e : decide ((i : Int) < 4) = true := by simp; omega
    have e1 : rd 0 f 0 = x := rd_nat (i := 0) hx
    have e2 : inB 0 f.length = true := inB_int (by omega) (by have := (List.getElem?_eq_some_iff.1 hx).1; omega)
    simp only [m73_l1, e, cond_true, e1, e2, rd_drop h]
    rw [show List.length [s0, s1, s2, s3] = 4 from rfl, inB4 (by omega) (by omega), wrap_nat (by omega)]
    simp only [cond_true]
  · have := congrArg List.length h
    simp at this
    have e : decide ((i : Int) < 4) = false := by simp; omega
    simp only [m73_l1, e, cond_false]
theorem m73_l0_eq (f : List Int) (hl : f.length < 4611686018427387904) : ∀ (r : List Int) (i k : Nat), f.drop i = r → r.length < k → m73_l0 N k f w s0 s1 s2 s3 fs (i : Int) = some (bif r.all (fun x => within x 0 4095) then .inr (f, (w, (s0, (s1, (s2, (s3, fs)))))) else .inl (-1))
  | [], i, k, h, hk => by
    obtain ⟨k, rfl⟩ : ∃ q, k = q + 1 := ⟨k - 1, by simp at hk; omega⟩
    simp only [m73_l0, ge_drop h, cond_false]
    rfl
  | x :: r, i, k, h, hk => by
    obtain ⟨k, rfl⟩ : ∃ q, k = q + 1 := ⟨k - 1, by simp at hk; omega⟩
    simp only [m73_l0, lt_drop h, inB_drop h, rd_drop h, wrap_drop h hl, cond_true, m79_eq, Option.bind_some, m73_l0_eq f hl r (i + 1) k (succ_drop h) (by simp at hk; omega), List.all_cons]
    cases within x 0 4095 <;> rfl
theorem m73_eq (hN : 100 < N) (hw : 2 ≤ w ∧ w ≤ 32) (f : List Int) : m73 N w s0 s1 s2 s3 fs f = some (subf w s0 s1 s2 s3 f) := by
  unfold m73 subf
  by_cases c : (f.length : Int) = w
  · have e : decide (((f.length : Nat) : Int) ≠ w) = false := by simp [c]
    have := m73_l0_eq (N := N) (w := w) (s0 := s0) (s1 := s1) (s2 := s2) (s3 := s3) (fs := fs) f (by omega) f 0 N rfl (by omega)
    rw [show ((0 : Nat) : Int) = 0 from rfl] at this
    have e' : decide (((f.length : Nat) : Int) = w) = true := by simp [c]
    rw [e, e']
    simp only [cond_false, this, Option.bind_some, Bool.true_and]
    cases f.all (fun x => within x 0 4095) with
    | false => rfl
    | true =>
      simp only [cond_true]
      have h0 : f[0]? = some (rd 0 f 0) := by
        rw [List.getElem?_eq_getElem (by omega)]
        simp [rd, List.getD, List.getElem?_eq_getElem (show 0 < f.length by omega)]
      have := m73_l1_eq (N := N) (w := w) (s0 := s0) (s1 := s1) (s2 := s2) (s3 := s3) (fs := fs) _ f h0 _ 0 N rfl (by simp; omega)
      rw [show ((0 : Nat) : Int) = 0 from rfl] at this
      rw [this, Option.bind_some, List.drop_zero, place]
      cases List.findIdx? (fun y => decide (rd 0 f 0 = y)) [s0, s1, s2, s3] with
      | none => rfl
      | some j => simp
  · have e : decide (((f.length : Nat) : Int) ≠ w) = true := by simp [c]
    simp [e, c]
theorem m68_eq (hN : 100 < N) (hf : ∀ f, f ∈ fs → I64 f.2.2.1) : m68 N w s0 s1 s2 s3 fs fr = some (bif layOK w s0 s1 s2 s3 fs then (bif decide (fr.length ≤ 200) then 0 else 2) else 120) := by
  unfold m68
  rw [m28_eq hN hf, Option.bind_some]
  cases h1 : layOK w s0 s1 s2 s3 fs with
  | false => rfl
  | true =>
    by_cases h2 : fr.length ≤ 200
    · have e2 : decide ((200 : Int) < ((fr.length : Nat) : Int)) = false := by simp; omega
      simp [e2, h2]
    · have e2 : decide ((200 : Int) < ((fr.length : Nat) : Int)) = true := by simp; omega
      simp [e2, h2]

/-! What a statement looks at; copies. -/
theorem m15_l0_eq (hl : fr.length < 4611686018427387904) : ∀ (r : List (List Int)) (i k : Nat), fr.drop i = r → r.length < k → m15_l0 N k w s0 s1 s2 s3 fs fr (i : Int) = some (bif r.any (fun f => decide (50 < f.length)) then .inl true else .inr ())
  | [], i, k, h, hk => by
    obtain ⟨k, rfl⟩ : ∃ q, k = q + 1 := ⟨k - 1, by simp at hk; omega⟩
    simp only [m15_l0, ge_drop h, cond_false]
    rfl
  | x :: r, i, k, h, hk => by
    obtain ⟨k, rfl⟩ : ∃ q, k = q + 1 := ⟨k - 1, by simp at hk; omega⟩
    have e : decide ((50 : Int) < ((x.length : Nat) : Int)) = decide (50 < x.length) := by
      congr 1
      simp
      omega
    simp only [m15_l0, lt_drop h, inB_drop h, rd_drop h, wrap_drop h hl, cond_true, e, m15_l0_eq hl r (i + 1) k (succ_drop h) (by simp at hk; omega), List.any_cons]
    cases decide (50 < x.length) <;> rfl
/-- A tape that is larger than a statement looks at. -/
def farT (fs : List D2) (fr : List (List Int)) : Bool := decide (20 < fs.length) || (decide (220 < fr.length) || fr.any (fun f => decide (50 < f.length)))
theorem m15_eq (hN : 300 < N) : m15 N w s0 s1 s2 s3 fs fr = some (farT fs fr) := by
  unfold m15 farT
  by_cases c1 : 20 < fs.length
  · have e : decide ((20 : Int) < ((fs.length : Nat) : Int)) = true := by simp; omega
    simp [e, c1]
  · have e : decide ((20 : Int) < ((fs.length : Nat) : Int)) = false := by simp; omega
    by_cases c2 : 220 < fr.length
    · have e2 : decide ((220 : Int) < ((fr.length : Nat) : Int)) = true := by simp; omega
      simp [e, e2, c1, c2]
    · have e2 : decide ((220 : Int) < ((fr.length : Nat) : Int)) = false := by simp; omega
      have := m15_l0_eq (N := N) (w := w) (s0 := s0) (s1 := s1) (s2 := s2) (s3 := s3) (fs := fs) (fr := fr) (by omega) fr 0 N rfl (by omega)
      rw [show ((0 : Nat) : Int) = 0 from rfl] at this
      simp only [e, e2, cond_false, this, Option.bind_some, c1, c2, decide_false, Bool.false_or]
      cases fr.any (fun f => decide (50 < f.length)) <;> rfl
theorem farT_not (h : farT fs fr = false) : fs.length ≤ 20 ∧ fr.length ≤ 220 ∧ ∀ f, f ∈ fr → f.length ≤ 50 := by
  simp only [farT, Bool.or_eq_false_iff, decide_eq_false_iff_not, Nat.not_lt, List.any_eq_false, decide_eq_true_eq] at h
  exact ⟨h.1, h.2.1, h.2.2⟩
theorem m31_eq (h : fs.length ≤ 1000) : m31 N w s0 s1 s2 s3 fs = some (w, (s0, (s1, (s2, (s3, fs))))) := by
  unfold m31
  rw [List.nil_append, room_small (by omega) (by omega)]
  rfl
theorem m65_l0_eq (hl : fr.length ≤ 1000) (hf : ∀ f, f ∈ fr → f.length ≤ 1000) : ∀ (r : List (List Int)) (i k : Nat), fr.drop i = r → r.length < k → m65_l0 N k fr (fr.take i) (i : Int) = some fr
  | [], i, k, h, hk => by
    obtain ⟨k, rfl⟩ : ∃ q, k = q + 1 := ⟨k - 1, by simp at hk; omega⟩
    have := congrArg List.length h
    simp at this
    simp only [m65_l0, ge_drop h, cond_false]
    rw [List.take_of_length_le (by omega)]
  | x :: r, i, k, h, hk => by
    obtain ⟨k, rfl⟩ : ∃ q, k = q + 1 := ⟨k - 1, by simp at hk; omega⟩
    have hx := hf x (List.mem_of_getElem? (drop_get h))
    have hlt := drop_lt h
    have htk : fr.take i ++ [x] = fr.take (i + 1) := by
      rw [List.take_add_one, drop_get h]
      rfl
    simp only [m65_l0, lt_drop h, inB_drop h, rd_drop h, wrap_drop h (show fr.length < 4611686018427387904 by omega), cond_true, List.nil_append]
    rw [room_small (show x.length < 1000000 by omega) (by omega), room_small (show (fr.take i ++ [x]).length < 1000000 by simp; omega) (by omega), htk]
    simp only [cond_true]
    exact m65_l0_eq hl hf r (i + 1) k (succ_drop h) (by simp at hk; omega)
theorem m65_eq (hN : 1000 < N) (hl : fr.length ≤ 1000) (hf : ∀ f, f ∈ fr → f.length ≤ 1000) : m65 N fr = some fr := by
  unfold m65
  have := m65_l0_eq (N := N) hl hf fr 0 N rfl (by omega)
  rw [show ((0 : Nat) : Int) = 0 from rfl, List.take_zero] at this
  rw [this]
  rfl
theorem m17_eq (hN : 1000 < N) (h : farT fs fr = false) : m17 N w s0 s1 s2 s3 fs fr = some (w, (s0, (s1, (s2, (s3, (fs, fr)))))) := by
  obtain ⟨h1, h2, h3⟩ := farT_not h
  unfold m17
  rw [m31_eq (by omega), m65_eq hN (by omega) (fun f hf => by have := h3 f hf; omega)]
  rfl
end
end Go.VM

set_option linter.unusedVariables false
set_option linter.unusedSimpArgs false
namespace Go.VM
section
variable {N : Nat} {w s0 s1 s2 s3 b : Int} {fs : List D2} {fr : List (List Int)} {sub : List Int}
theorem wrap_len {n : Nat} (h : n < 4611686018427387904) : Go.IntKind.wrap .i64 ((n : Int) - 1) = (n : Int) - 1 := wrap64 (by omega) (by omega)
theorem m112_eq (h : fs.length < 4611686018427387904) (n : Int) : m112 N w s0 s1 s2 s3 fs fr sub n = some (within n 0 ((fs.length : Int) - 1)) := by
  unfold m112
  rw [m74_eq, Option.bind_some, wrap_len h, bif_tf]
theorem m111_eq (h : fs.length < 4611686018427387904) (n : Int) : m111 N n w s0 s1 s2 s3 fs fr sub = some (!within n 0 ((fs.length : Int) - 1)) := by
  unfold m111
  rw [m112_eq h, Option.bind_some, bif_ft]
theorem m144b_eq {l : List Int} (h : fs.length < 4611686018427387904) (hN : l.length < N) (hl : l.length < 4611686018427387904) : m144b N l w s0 s1 s2 s3 fs fr sub = some (place (fun n => !within n 0 ((fs.length : Int) - 1)) l) := by
  unfold m144b
  refine idx_fun (L := fun k i => m144b_l0 N k l w s0 s1 s2 s3 fs fr sub ((l.length : Nat) : Int) i) (l := l) (p := fun n => !within n 0 ((fs.length : Int) - 1)) (fun k i x r h' => ?_) (fun k i h' => ?_) hN
  · simp only [m144b_l0, lt_drop h', inB_drop h', rd_drop h', wrap_drop h' hl, cond_true, m111_eq h, Option.bind_some]
  · simp only [m144b_l0, ge_drop h', cond_false]
theorem m110b_eq {l : List Int} (h : fs.length < 4611686018427387904) (hN : l.length < N) (hl : l.length < 4611686018427387904) : m110b N l w s0 s1 s2 s3 fs fr sub = some (l.any fun n => !within n 0 ((fs.length : Int) - 1)) := by
  unfold m110b
  rw [m144b_eq h hN hl, Option.bind_some, place_nonneg, bif_tf]

/-- A tape, after all errors and those of fields. -/
def fieldR (w s0 s1 s2 s3 : Int) (fs : List D2) (fr : List (List Int)) (ids : List Int) : Int ⊕ (Int × (Int × (Int × (Int × (Int × ((List D2) × ((List (List Int)) × ((List Int) × Int)))))))) :=
  match tapeR w s0 s1 s2 s3 fs fr with
  | .inl e => .inl e
  | .inr t => bif ids.any (fun n => !within n 0 ((fs.length : Int) - 1)) then .inl 1 else .inr t
theorem m66_eq (hN : 300 < N) (hf : ∀ f, f ∈ fs → I64 f.2.2.1) {ids : List Int} (hi : ids.length < 10) : m66 N w s0 s1 s2 s3 fs fr ids = some (fieldR w s0 s1 s2 s3 fs fr ids) := by
  unfold m66 fieldR
  rw [m71_eq hN hf, Option.bind_some]
  unfold tapeR
  cases h1 : layOK w s0 s1 s2 s3 fs with
  | false => rfl
  | true =>
    by_cases h2 : fr.length ≤ 200
    · simp only [h2, decide_true, cond_true]
      have e : decide ((0 : Int) ≠ 0) = false := rfl
      rw [e]
      simp only [cond_false]
      rw [m110b_eq (by have := (layOK_f h1).1; omega) (by omega) (by omega), Option.bind_some]
      cases ids.any (fun n => !within n 0 ((fs.length : Int) - 1)) <;> rfl
    · simp only [h2, decide_false, cond_true, cond_false]
      rfl

/-! ### The good frames -/
def goods : Nat → List Int → List D6
  | _, [] => []
  | i, s :: r => bif decide (0 ≤ s) then ((i : Int), s) :: goods (i + 1) r else goods (i + 1) r
theorem i72_l0_acc (hl : sub.length < 4611686018427387904) : ∀ (r : List Int) (i k : Nat) (a : List D6), sub.drop i = r → r.length < k → ∀ o, i72_l0 N k a sub ((sub.length : Nat) : Int) (i : Int) = some o ↔ a = goods i r ++ o
  | [], i, k, a, h, hk, o => by
    obtain ⟨k, rfl⟩ : ∃ q, k = q + 1 := ⟨k - 1, by simp at hk; omega⟩
    simp only [i72_l0, ge_drop h, cond_false, goods, List.nil_append, Option.some.injEq]
  | s :: r, i, k, a, h, hk, o => by
    obtain ⟨k, rfl⟩ : ∃ q, k = q + 1 := ⟨k - 1, by simp at hk; omega⟩
    have ih := fun a => i72_l0_acc hl r (i + 1) k a (succ_drop h) (by simp at hk; omega) o
    simp only [i72_l0, lt_drop h, inB_drop h, rd_drop h, wrap_drop h hl, cond_true, goods]
    cases hs : decide (0 ≤ s) with
    | false => simp only [cond_false]; exact ih a
    | true =>
      simp only [cond_true]
      cases a with
      | nil => simp [inB]
      | cons y q =>
        have e1 : inB 0 (y :: q).length = true := inB_int (by omega) (by simp)
        have e2 : rd z6 (y :: q) 0 = y := rfl
        simp only [e1, cond_true, e2, List.drop_succ_cons, List.drop_zero, eqInt]
        obtain ⟨y1, y2⟩ := y
        by_cases c1 : (i : Int) = y1
        · by_cases c2 : s = y2
          · simp only [c1, c2, decide_true, Bool.and_self, cond_true, List.cons_append, List.cons.injEq, true_and]
            exact ih q
          · simp only [c1, c2, decide_true, decide_false, Bool.and_false, cond_false, List.cons_append, List.cons.injEq, Prod.mk.injEq, true_and]
            constructor
            · intro h; cases h
            · intro h; exact absurd h.1.symm c2
        · simp only [c1, decide_false, Bool.false_and, cond_false, List.cons_append, List.cons.injEq, Prod.mk.injEq]
          constructor
          · intro h; cases h
          · intro h; exact absurd h.1.1.symm c1
theorem i72_eq (hl : sub.length < 4611686018427387904) (hN : sub.length < N) : i72 N w s0 s1 s2 s3 fs fr sub = some (goods 0 sub) := by
  have key : ∀ l, i72_acc N w s0 s1 s2 s3 fs fr sub l = some () ↔ l = goods 0 sub := by
    intro l
    unfold i72_acc
    have h := i72_l0_acc (N := N) hl sub 0 N l rfl hN
    rw [show ((0 : Nat) : Int) = 0 from rfl] at h
    constructor
    · intro h2
      cases hr : i72_l0 N N l sub ((sub.length : Nat) : Int) 0 with
      | none => rw [hr] at h2; cases h2
      | some o =>
        rw [hr, Option.bind_some] at h2
        have := (h o).1 hr
        by_cases c : o.length = 0
        · have : o = [] := List.eq_nil_of_length_eq_zero c
          subst this
          simpa using (h []).1 hr
        · simp [c] at h2
    · intro h2
      rw [(h []).2 (by simpa using h2)]
      rfl
  exact itF_eq ((key _).2 rfl) fun q hq => (key q).1 hq

/-! ### Values -/
def rawU (f : D2) (x : Nat) : Nat := x / 2 ^ f.2.1.toNat % 2 ^ f.2.2.1.toNat
/-- The raw number of a field in a word. -/
def rawI (f : D2) (x : Nat) : Int := bif f.2.2.2.1 && decide (2 ^ (f.2.2.1.toNat - 1) ≤ rawU f x) then (rawU f x : Int) - ((2 ^ f.2.2.1.toNat : Nat) : Int) else (rawU f x : Int)
theorem rawU_mask (f : D2) (x : Nat) : (x &&& maskN f) / 2 ^ f.2.1.toNat = rawU f x := by
  apply Nat.eq_of_testBit_eq
  intro j
  rw [Nat.testBit_div_two_pow, Nat.testBit_and, mask_bit, rawU, Nat.testBit_mod_two_pow, Nat.testBit_div_two_pow, Bool.and_comm]
  congr 1
  rw [Bool.eq_iff_iff]
  simp
  omega
theorem rawU_lt (f : D2) (x : Nat) : rawU f x < 2 ^ f.2.2.1.toNat := Nat.mod_lt _ (Nat.two_pow_pos _)
theorem raw_top {n s : Nat} (h : n < 2 ^ s) (hs : 1 ≤ s) : (n / 2 ^ (s - 1) = 1) ↔ 2 ^ (s - 1) ≤ n := by
  have e : 2 ^ s = 2 * 2 ^ (s - 1) := by
    have : s = (s - 1) + 1 := by omega
    rw [this, Nat.pow_succ]
    simp
    omega
  have hp := Nat.two_pow_pos (s - 1)
  constructor
  · intro h1
    have := Nat.div_mul_le_self n (2 ^ (s - 1))
    rw [h1] at this
    omega
  · intro h1
    apply Nat.div_eq_of_lt_le
    · omega
    · omega
theorem m115_eq {f : D2} {w : Int} (h : fOK w f = true) {x : Nat} (hx : x < 4096) : m115 N f.1 f.2.1 f.2.2.1 f.2.2.2.1 f.2.2.2.2.1 f.2.2.2.2.2.1 f.2.2.2.2.2.2.1 f.2.2.2.2.2.2.2.1 f.2.2.2.2.2.2.2.2 (x : Int) = some (rawI f x) := by
  obtain ⟨h1, h2, h3, h4, h5⟩ := mask_lt h
  have hp := pow_le12 (n := f.2.2.1.toNat) (by omega)
  have hp1 : f.2.1 = ((f.2.1.toNat : Nat) : Int) := by omega
  have hp2 : f.2.2.1 = ((f.2.2.1.toNat : Nat) : Int) := by omega
  have hu := rawU_lt f x
  unfold m115 rawI
  rw [m78_eq f h, Option.bind_some]
  have e1 : ishr .i64 (iand .i64 (x : Int) (maskN f : Int)) f.2.1 = (rawU f x : Int) := by
    rw [iand_nat (by omega) (by omega), hp1, ishr_nat (by omega)]
    rw [rawU_mask]
  have e2 : Go.IntKind.wrap .i64 (f.2.2.1 - 1) = ((f.2.2.1.toNat - 1 : Nat) : Int) := by
    rw [wrap64 (by omega) (by omega)]
    omega
  have e3 : ishr .i64 (rawU f x : Int) ((f.2.2.1.toNat - 1 : Nat) : Int) = ((rawU f x / 2 ^ (f.2.2.1.toNat - 1) : Nat) : Int) := ishr_nat (by omega)
  have e4 : ishl .i64 1 f.2.2.1 = ((2 ^ f.2.2.1.toNat : Nat) : Int) := by
    have := ishl_nat (a := 1) (n := f.2.2.1.toNat) (by omega) (by omega)
    rw [Nat.one_mul, ← hp2] at this
    exact this
  have e5 : decide (((rawU f x / 2 ^ (f.2.2.1.toNat - 1) : Nat) : Int) = 1) = decide (2 ^ (f.2.2.1.toNat - 1) ≤ rawU f x) := by
    rw [Bool.eq_iff_iff]
    simp only [decide_eq_true_eq]
    rw [← raw_top hu h2]
    omega
  simp only [e1, e2, e3, e4, e5, h4, decide_true, cond_true, show (0 : Int) ≤ f.2.2.1 from by omega, show (0 : Int) ≤ ((f.2.2.1.toNat - 1 : Nat) : Int) from by omega]
  rw [wrap64 (by omega) (by omega)]
  cases f.2.2.2.1 with
  | false => rfl
  | true =>
    cases decide (2 ^ (f.2.2.1.toNat - 1) ≤ rawU f x) <;> rfl
theorem rawI_bd {f : D2} {w : Int} (h : fOK w f = true) (x : Nat) : -4096 ≤ rawI f x ∧ rawI f x < 4096 := by
  obtain ⟨h1, h2, h3, h4, h5⟩ := mask_lt h
  have hp := pow_le12 (n := f.2.2.1.toNat) (by omega)
  have hu := rawU_lt f x
  unfold rawI
  cases f.2.2.2.1 && decide (2 ^ (f.2.2.1.toNat - 1) ≤ rawU f x) <;> simp only [cond_true, cond_false] <;> omega
/-- The value of a field in a word. -/
def valI (f : D2) (x : Nat) : Int := f.2.2.2.2.2.2.1 * f.2.2.2.2.2.1 + rawI f x * f.2.2.2.2.1
theorem mul_bd {a b : Int} {m n : Nat} (h1 : -(m : Int) ≤ a ∧ a ≤ m) (h2 : -(n : Int) ≤ b ∧ b ≤ n) : -((m * n : Nat) : Int) ≤ a * b ∧ a * b ≤ ((m * n : Nat) : Int) := by
  have h : (a * b).natAbs ≤ m * n := by
    rw [Int.natAbs_mul]
    exact Nat.mul_le_mul (by omega) (by omega)
  omega
theorem val_bd {f : D2} {w : Int} (h : fOK w f = true) (x : Nat) : (-1000000000 ≤ f.2.2.2.2.2.2.1 * f.2.2.2.2.2.1 ∧ f.2.2.2.2.2.2.1 * f.2.2.2.2.2.1 ≤ 1000000000) ∧ -4096000 ≤ rawI f x * f.2.2.2.2.1 ∧ rawI f x * f.2.2.2.2.1 ≤ 4096000 := by
  have hb := rawI_bd h x
  have h' := h
  simp only [fOK, Bool.and_eq_true, within_iff, decide_eq_true_eq] at h'
  have a := mul_bd (a := f.2.2.2.2.2.2.1) (b := f.2.2.2.2.2.1) (m := 1000000) (n := 1000) (by omega) (by omega)
  have c := mul_bd (a := rawI f x) (b := f.2.2.2.2.1) (m := 4096) (n := 1000) (by omega) (by omega)
  omega
theorem val_wrap {f : D2} {w : Int} (h : fOK w f = true) (x : Nat) : Go.IntKind.wrap .i64 (Go.IntKind.wrap .i64 (f.2.2.2.2.2.2.1 * f.2.2.2.2.2.1) + Go.IntKind.wrap .i64 (rawI f x * f.2.2.2.2.1)) = valI f x := by
  have := val_bd h x
  rw [wrap64 (x := f.2.2.2.2.2.2.1 * f.2.2.2.2.2.1) (by omega) (by omega), wrap64 (x := rawI f x * f.2.2.2.2.1) (by omega) (by omega), wrap64 (by omega) (by omega)]
  rfl
theorem m114_eq {f : D2} {w : Int} (h : fOK w f = true) (x : Nat) : m114 N f.1 f.2.1 f.2.2.1 f.2.2.2.1 f.2.2.2.2.1 f.2.2.2.2.2.1 f.2.2.2.2.2.2.1 f.2.2.2.2.2.2.2.1 f.2.2.2.2.2.2.2.2 (rawI f x) = some (valI f x) := by
  unfold m114
  rw [val_wrap h]
end
end Go.VM

set_option linter.unusedVariables false
set_option linter.unusedSimpArgs false
namespace Go.VM
section
variable {N : Nat} {w s0 s1 s2 s3 b : Int} {fs : List D2} {fr : List (List Int)} {sub : List Int}
/-- The sample of a field in a frame. -/
def smp (w s0 s1 s2 s3 : Int) (f : D2) (x : List Int) : Option Int := bif decide (0 ≤ subf w s0 s1 s2 s3 x) && inS f (subf w s0 s1 s2 s3 x) then some (valI f (rd 0 x f.1).toNat) else none
def samples (w s0 s1 s2 s3 : Int) (f : D2) : Nat → List (List Int) → List D6
  | _, [] => []
  | i, x :: r => match smp w s0 s1 s2 s3 f x with
    | some v => ((i : Int), v) :: samples w s0 s1 s2 s3 f (i + 1) r
    | none => samples w s0 s1 s2 s3 f (i + 1) r

theorem place_neg {α : Type} (p : α → Bool) (l : List α) : -1 ≤ place p l ∧ place p l < l.length := by
  unfold place
  cases h : l.findIdx? p with
  | none => simp; omega
  | some j =>
    obtain ⟨h1, _⟩ := List.findIdx?_eq_some_iff_getElem.1 h
    simp
    omega
/-- What a good frame is like. -/
theorem subf_good {x : List Int} (h : 0 ≤ subf w s0 s1 s2 s3 x) : (x.length : Int) = w ∧ ∀ y, y ∈ x → 0 ≤ y ∧ y ≤ 4095 := by
  unfold subf at h
  cases c : decide ((x.length : Int) = w) && x.all (fun x => within x 0 4095) with
  | false => rw [c] at h; simp at h
  | true =>
    simp only [Bool.and_eq_true, decide_eq_true_eq, List.all_eq_true, within_iff] at c
    exact c
theorem subf_lt (x : List Int) : subf w s0 s1 s2 s3 x < 4 := by
  unfold subf
  cases decide ((x.length : Int) = w) && x.all (fun x => within x 0 4095) with
  | false => simp
  | true =>
    have := (place_neg (fun y => decide (rd 0 x 0 = y)) [s0, s1, s2, s3]).2
    simpa using this
theorem good_word {x : List Int} {f : D2} (h : 0 ≤ subf w s0 s1 s2 s3 x) (hf : fOK w f = true) : inB f.1 x.length = true ∧ 0 ≤ rd 0 x f.1 ∧ rd 0 x f.1 ≤ 4095 := by
  obtain ⟨h1, h2⟩ := subf_good h
  obtain ⟨w1, w2⟩ := fOK_word hf
  obtain ⟨y, e1, e2⟩ := rd_getP (z := (0 : Int)) (l := x) (i := f.1) (by omega) (by omega)
  have := h2 y (List.mem_of_getElem? e1)
  exact ⟨inB_int (by omega) (by omega), by omega, by omega⟩

/-- The samples, out of the good frames. -/
def smpG (f : D2) (fr : List (List Int)) : List D6 → List D6
  | [] => []
  | y :: r => bif inS f y.2 then (y.1, valI f (rd 0 (rd ([] : List Int) fr y.1) f.1).toNat) :: smpG f fr r else smpG f fr r
theorem i113_l0_acc {f : D2} (hf : fOK w f = true) {c0 c1 c2 c3 c4 : Int} {gs : List D2} {fr' : List (List Int)} {sb sb' : List Int} {e0 e1 e2 e3 e4 : Int} {hs : List D2} : ∀ (ys : List D6) (a : List D6),
    (∀ y, y ∈ ys → ∃ x, inB y.1 fr.length = true ∧ rd ([] : List Int) fr y.1 = x ∧ 0 ≤ subf w s0 s1 s2 s3 x) →
    ∀ o, (i113_l0 N ys a c0 c1 c2 c3 c4 gs fr sb f.1 f.2.1 f.2.2.1 f.2.2.2.1 f.2.2.2.2.1 f.2.2.2.2.2.1 f.2.2.2.2.2.2.1 f.2.2.2.2.2.2.2.1 f.2.2.2.2.2.2.2.2 e0 e1 e2 e3 e4 hs fr' sb').map (·.1) = some o ↔ a = smpG f fr ys ++ o
  | [], a, _, o => by
    simp only [i113_l0, smpG, List.nil_append, Option.map_some, Option.some.injEq]
  | y :: ys, a, hy, o => by
    have ih := fun a => i113_l0_acc hf (c0 := c0) (c1 := c1) (c2 := c2) (c3 := c3) (c4 := c4) (gs := gs) (fr' := fr') (sb := sb) (sb' := sb') (e0 := e0) (e1 := e1) (e2 := e2) (e3 := e3) (e4 := e4) (hs := hs) ys a (fun z hz => hy z (by simp [hz])) o
    have hev := fOK_every hf
    simp only [i113_l0, smpG]
    rw [m77_eq f y.2 (by omega), Option.bind_some]
    cases hs : inS f y.2 with
    | false => simp only [cond_false]; exact ih a
    | true =>
      obtain ⟨x, h1, h2, h3⟩ := hy y (by simp)
      obtain ⟨g1, g2, g3⟩ := good_word h3 hf
      have e : rd 0 x f.1 = (((rd 0 x f.1).toNat : Nat) : Int) := by omega
      simp only [cond_true, h1, h2, g1]
      rw [e, m115_eq hf (by omega), Option.bind_some, m114_eq hf, Option.bind_some, Int.toNat_natCast]
      cases a with
      | nil => simp [inB]
      | cons z q =>
        have e1 : inB 0 (z :: q).length = true := inB_int (by omega) (by simp)
        have e2 : rd z6 (z :: q) 0 = z := rfl
        simp only [e1, cond_true, e2, List.drop_succ_cons, List.drop_zero, eqInt]
        obtain ⟨z1, z2⟩ := z
        by_cases c1 : y.1 = z1
        · by_cases c2 : valI f (rd 0 x f.1).toNat = z2
          · simp only [c1, c2, decide_true, Bool.and_self, cond_true, List.cons_append, List.cons.injEq, true_and]
            exact ih q
          · simp only [c1, c2, decide_true, decide_false, Bool.and_false, cond_false, List.cons_append, List.cons.injEq, Prod.mk.injEq, true_and]
            constructor
            · intro h; cases h
            · intro h; exact absurd h.1.symm c2
        · simp only [c1, decide_false, Bool.false_and, cond_false, List.cons_append, List.cons.injEq, Prod.mk.injEq]
          constructor
          · intro h; cases h
          · intro h; exact absurd h.1.1.symm c1

theorem goods_mem : ∀ (r : List (List Int)) (i : Nat), fr.drop i = r → ∀ y, y ∈ goods i (r.map (subf w s0 s1 s2 s3)) → ∃ x, inB y.1 fr.length = true ∧ rd ([] : List Int) fr y.1 = x ∧ 0 ≤ subf w s0 s1 s2 s3 x
  | [], i, h, y, hy => by simp [goods] at hy
  | x :: r, i, h, y, hy => by
    simp only [List.map_cons, goods] at hy
    cases c : decide (0 ≤ subf w s0 s1 s2 s3 x) with
    | false =>
      rw [c, cond_false] at hy
      exact goods_mem r (i + 1) (succ_drop h) y hy
    | true =>
      rw [c, cond_true, List.mem_cons] at hy
      rcases hy with rfl | hy
      · exact ⟨x, inB_drop h, rd_drop h, by simpa using c⟩
      · exact goods_mem r (i + 1) (succ_drop h) y hy
theorem smpG_goods (f : D2) : ∀ (r : List (List Int)) (i : Nat), fr.drop i = r → smpG f fr (goods i (r.map (subf w s0 s1 s2 s3))) = samples w s0 s1 s2 s3 f i r
  | [], i, h => rfl
  | x :: r, i, h => by
    have ih := smpG_goods f r (i + 1) (succ_drop h)
    simp only [List.map_cons, goods, samples, smp]
    cases c : decide (0 ≤ subf w s0 s1 s2 s3 x) with
    | false => simp only [cond_false, Bool.false_and]; exact ih
    | true =>
      simp only [cond_true, smpG, Bool.true_and, ih, rd_drop h]
      cases inS f (subf w s0 s1 s2 s3 x) <;> rfl
theorem i113_eq {f : D2} (hf : fOK w f = true) (hl : fr.length ≤ 200) (hN : 300 < N) : i113 N w s0 s1 s2 s3 fs fr (fr.map (subf w s0 s1 s2 s3)) f.1 f.2.1 f.2.2.1 f.2.2.2.1 f.2.2.2.2.1 f.2.2.2.2.2.1 f.2.2.2.2.2.2.1 f.2.2.2.2.2.2.2.1 f.2.2.2.2.2.2.2.2 = some (samples w s0 s1 s2 s3 f 0 fr) := by
  have key : ∀ l, i113_acc N w s0 s1 s2 s3 fs fr (fr.map (subf w s0 s1 s2 s3)) f.1 f.2.1 f.2.2.1 f.2.2.2.1 f.2.2.2.2.1 f.2.2.2.2.2.1 f.2.2.2.2.2.2.1 f.2.2.2.2.2.2.2.1 f.2.2.2.2.2.2.2.2 l = some () ↔ l = samples w s0 s1 s2 s3 f 0 fr := by
    intro l
    unfold i113_acc
    rw [i72_eq (by simp; omega) (by simp; omega), Option.bind_some]
    have h := i113_l0_acc (N := N) (fr := fr) (s0 := s0) (s1 := s1) (s2 := s2) (s3 := s3) hf (c0 := w) (c1 := s0) (c2 := s1) (c3 := s2) (c4 := s3) (gs := fs) (fr' := fr) (sb := fr.map (subf w s0 s1 s2 s3)) (sb' := fr.map (subf w s0 s1 s2 s3)) (e0 := w) (e1 := s0) (e2 := s1) (e3 := s2) (e4 := s3) (hs := fs) (goods 0 (fr.map (subf w s0 s1 s2 s3))) l (goods_mem fr 0 rfl)
    rw [smpG_goods f fr 0 rfl] at h
    constructor
    · intro h2
      cases hr : i113_l0 N (goods 0 (fr.map (subf w s0 s1 s2 s3))) l w s0 s1 s2 s3 fs fr (fr.map (subf w s0 s1 s2 s3)) f.1 f.2.1 f.2.2.1 f.2.2.2.1 f.2.2.2.2.1 f.2.2.2.2.2.1 f.2.2.2.2.2.2.1 f.2.2.2.2.2.2.2.1 f.2.2.2.2.2.2.2.2 w s0 s1 s2 s3 fs fr (fr.map (subf w s0 s1 s2 s3)) with
      | none => rw [hr] at h2; cases h2
      | some o =>
        rw [hr, Option.bind_some] at h2
        by_cases c : o.1.length = 0
        · have : o.1 = [] := List.eq_nil_of_length_eq_zero c
          have := (h []).1 (by rw [hr, Option.map_some, this])
          simpa using this
        · simp [c] at h2
    · intro h2
      have := (h []).2 (by simpa using h2)
      cases hr : i113_l0 N (goods 0 (fr.map (subf w s0 s1 s2 s3))) l w s0 s1 s2 s3 fs fr (fr.map (subf w s0 s1 s2 s3)) f.1 f.2.1 f.2.2.1 f.2.2.2.1 f.2.2.2.2.1 f.2.2.2.2.2.1 f.2.2.2.2.2.2.1 f.2.2.2.2.2.2.2.1 f.2.2.2.2.2.2.2.2 w s0 s1 s2 s3 fs fr (fr.map (subf w s0 s1 s2 s3)) with
      | none => rw [hr] at this; cases this
      | some o =>
        rw [hr, Option.map_some] at this
        injection this with this
        rw [Option.bind_some, this]
        rfl
  exact itF_eq ((key _).2 rfl) fun q hq => (key q).1 hq

theorem within_field {n : Int} (h : within n 0 ((fs.length : Int) - 1) = true) : ∃ f, fs[n.toNat]? = some f ∧ inB n fs.length = true ∧ rd z2 fs n = f := by
  obtain ⟨h1, h2⟩ := within_iff.1 h
  obtain ⟨f, e1, e2⟩ := rd_getP (z := z2) (l := fs) (i := n) h1 (by omega)
  exact ⟨f, e1, inB_int h1 (by omega), e2⟩
theorem m67_eq {n : Int} (h : inB n fs.length = true) : m67 N w s0 s1 s2 s3 fs fr sub n = some (w, (s0, (s1, (s2, (s3, (fs, (fr, (sub, rd z2 fs n)))))))) := by
  unfold m67
  simp only [h, cond_true]

/-! ### Read -/
theorem m18_l0_eq {c0 c1 c2 c3 c4 : Int} {gs : List D2} {fr' : List (List Int)} {f : D2} : ∀ (ys a : List D6), a.length + ys.length < 1000 →
    (m18_l0 N ys a c0 c1 c2 c3 c4 gs fr' sub f.1 f.2.1 f.2.2.1 f.2.2.2.1 f.2.2.2.2.1 f.2.2.2.2.2.1 f.2.2.2.2.2.2.1 f.2.2.2.2.2.2.2.1 f.2.2.2.2.2.2.2.2) = some (a ++ ys, (c0, (c1, (c2, (c3, (c4, (gs, (fr', (sub, f)))))))))
  | [], a, _ => by simp only [m18_l0, List.append_nil]
  | y :: ys, a, h => by
    simp only [m18_l0]
    rw [room_small (by simp; simp at h; omega) (by omega), cond_true, m18_l0_eq ys _ (by simp; simp at h; omega), List.append_assoc]
    rfl
/-- What Read answers. -/
def readR (w s0 s1 s2 s3 : Int) (fs : List D2) (fr : List (List Int)) (n : Int) : List D6 × Int :=
  bif layOK w s0 s1 s2 s3 fs then (bif decide (fr.length ≤ 200) then (bif within n 0 ((fs.length : Int) - 1) then (samples w s0 s1 s2 s3 (rd z2 fs n) 0 fr, 0) else ([], 1)) else ([], 2)) else ([], 120)
theorem samples_len (f : D2) : ∀ (r : List (List Int)) (i : Nat), (samples w s0 s1 s2 s3 f i r).length ≤ r.length
  | [], i => Nat.le_refl _
  | x :: r, i => by
    have := samples_len f r (i + 1)
    simp only [samples]
    cases smp w s0 s1 s2 s3 f x <;> simp <;> omega
theorem m18_eq (hN : 300 < N) (hf : ∀ f, f ∈ fs → I64 f.2.2.1) (n : Int) : m18 N w s0 s1 s2 s3 fs fr n = some (readR w s0 s1 s2 s3 fs fr n) := by
  unfold m18 readR
  rw [m66_eq hN hf (by simp), Option.bind_some]
  unfold fieldR tapeR
  cases h1 : layOK w s0 s1 s2 s3 fs with
  | false => rfl
  | true =>
    by_cases h2 : fr.length ≤ 200
    · simp only [h2, decide_true, cond_true, List.any_cons, List.any_nil, Bool.or_false]
      cases h3 : within n 0 ((fs.length : Int) - 1) with
      | false => rfl
      | true =>
        obtain ⟨f, e1, e2, e3⟩ := within_field h3
        have hok := (layOK_f h1).2 f (List.mem_of_getElem? e1)
        simp only [Bool.not_true, cond_false, cond_true]
        have e : decide ((0 : Int) ≠ 0) = false := rfl
        rw [e]
        simp only [cond_false]
        rw [m67_eq e2, Option.bind_some, e3]
        simp only
        rw [i113_eq hok h2 hN, Option.bind_some, m18_l0_eq _ _ (by have := samples_len (w := w) (s0 := s0) (s1 := s1) (s2 := s2) (s3 := s3) f fr 0; simp; omega)]
        rfl
    · simp only [h2, decide_false, cond_true, cond_false]
      rfl
/-! The reference. -/
theorem m127_eq {f : D2} {w : Int} (h : fOK w f = true) {x : List Int} {v : Nat} (hb : inB f.1 x.length = true) (hx : rd 0 x f.1 = (v : Int)) (hv : v < 4096) : m127 N f.1 f.2.1 f.2.2.1 f.2.2.2.1 f.2.2.2.2.1 f.2.2.2.2.2.1 f.2.2.2.2.2.2.1 f.2.2.2.2.2.2.2.1 f.2.2.2.2.2.2.2.2 x = some (rawI f v) := by
  obtain ⟨h1, h2, h3, h4, h5⟩ := mask_lt h
  have hp := pow_le12 (n := f.2.2.1.toNat) (by omega)
  have hp0 := Nat.two_pow_pos f.2.2.1.toNat
  have hq := pow_le12 (n := f.2.2.1.toNat - 1) (by omega)
  have hp1 : f.2.1 = ((f.2.1.toNat : Nat) : Int) := by omega
  have hp2 : f.2.2.1 = ((f.2.2.1.toNat : Nat) : Int) := by omega
  have hu := rawU_lt f v
  have a1 : Go.IntKind.wrap .u64 f.2.1 = f.2.1 := wrapu64 (by omega) (by omega)
  have a2 : Go.IntKind.wrap .u64 f.2.2.1 = f.2.2.1 := wrapu64 (by omega) (by omega)
  have a3 : Go.IntKind.wrap .i64 (f.2.2.1 - 1) = ((f.2.2.1.toNat - 1 : Nat) : Int) := by
    rw [wrap64 (by omega) (by omega)]
    omega
  have a4 : Go.IntKind.wrap .u64 ((f.2.2.1.toNat - 1 : Nat) : Int) = ((f.2.2.1.toNat - 1 : Nat) : Int) := wrapu64 (by omega) (by omega)
  have e4 : ishl .i64 1 f.2.2.1 = ((2 ^ f.2.2.1.toNat : Nat) : Int) := by
    have := ishl_nat (a := 1) (n := f.2.2.1.toNat) (by omega) (by omega)
    rw [Nat.one_mul, ← hp2] at this
    exact this
  have e5 : ishl .i64 1 ((f.2.2.1.toNat - 1 : Nat) : Int) = ((2 ^ (f.2.2.1.toNat - 1) : Nat) : Int) := by
    have := ishl_nat (a := 1) (n := f.2.2.1.toNat - 1) (by omega) (by omega)
    rw [Nat.one_mul] at this
    exact this
  have e6 : iand .i64 (ishr .i64 (v : Int) f.2.1) (Go.IntKind.wrap .i64 (((2 ^ f.2.2.1.toNat : Nat) : Int) - 1)) = (rawU f v : Int) := by
    rw [hp1, ishr_nat (by omega)]
    have : ((2 ^ f.2.2.1.toNat : Nat) : Int) - 1 = ((2 ^ f.2.2.1.toNat - 1 : Nat) : Int) := by omega
    rw [this, wrap64 (by omega) (by omega), iand_nat (by have := Nat.div_le_self v (2 ^ f.2.1.toNat); omega) (by omega), Nat.and_two_pow_sub_one_eq_mod]
    rfl
  unfold m127 rawI
  simp only [hb, cond_true, a1, a2, a3, a4, hx, e4, e5, e6, h4, decide_true, show (0 : Int) ≤ f.2.2.1 from by omega, show (0 : Int) ≤ ((f.2.2.1.toNat - 1 : Nat) : Int) from by omega]
  rw [wrap64 (x := (rawU f v : Int) - ((2 ^ f.2.2.1.toNat : Nat) : Int)) (by omega) (by omega)]
  have e7 : decide (((2 ^ (f.2.2.1.toNat - 1) : Nat) : Int) ≤ (rawU f v : Int)) = decide (2 ^ (f.2.2.1.toNat - 1) ≤ rawU f v) := by
    rw [Bool.eq_iff_iff]
    simp only [decide_eq_true_eq]
    exact Int.ofNat_le
  rw [e7]
  cases f.2.2.2.1 with
  | false => rfl
  | true =>
    cases decide (2 ^ (f.2.2.1.toNat - 1) ≤ rawU f v) <;> rfl
theorem m96_eq (hN : 100 < N) (hw : 2 ≤ w ∧ w ≤ 32) {f : D2} (h : fOK w f = true) (x : List Int) : m96 N w s0 s1 s2 s3 fs f.1 f.2.1 f.2.2.1 f.2.2.2.1 f.2.2.2.2.1 f.2.2.2.2.2.1 f.2.2.2.2.2.2.1 f.2.2.2.2.2.2.2.1 f.2.2.2.2.2.2.2.2 x = some (match smp w s0 s1 s2 s3 f x with
    | some v => (v, true)
    | none => (0, false)) := by
  unfold m96 smp
  rw [m73_eq hN hw, Option.bind_some]
  have hev := fOK_every h
  by_cases c : 0 ≤ subf w s0 s1 s2 s3 x
  · have c' : decide (subf w s0 s1 s2 s3 x < 0) = false := by simp; omega
    have e : decide (f.2.2.2.2.2.2.2.1 ≠ 0) = true := by simp; omega
    obtain ⟨g1, g2, g3⟩ := good_word c h
    have e1 : rd 0 x f.1 = (((rd 0 x f.1).toNat : Nat) : Int) := by omega
    simp only [c', cond_false, e, cond_true, c, decide_true, Bool.true_and]
    rw [m127_eq h g1 e1 (by omega), Option.bind_some, val_wrap h]
    have e2 : decide (Int.tmod (subf w s0 s1 s2 s3 x) f.2.2.2.2.2.2.2.1 ≠ f.2.2.2.2.2.2.2.2) = !inS f (subf w s0 s1 s2 s3 x) := by
      unfold inS
      simp
    rw [e2]
    cases inS f (subf w s0 s1 s2 s3 x) <;> rfl
  · have c' : decide (subf w s0 s1 s2 s3 x < 0) = true := by simp; omega
    simp [c', c]
theorem m70_l0_eq (hN : 100 < N) (hw : 2 ≤ w ∧ w ≤ 32) {n : Int} {f : D2} (hf : fOK w f = true) (hb : inB n fs.length = true) (he : rd z2 fs n = f) (hl : fr.length ≤ 1000) : ∀ (r : List (List Int)) (i k : Nat) (o : List D6), fr.drop i = r → r.length < k → o.length ≤ i →
    m70_l0 N k fr n w s0 s1 s2 s3 fs o (i : Int) = some (o ++ samples w s0 s1 s2 s3 f i r)
  | [], i, k, o, h, hk, ho => by
    obtain ⟨k, rfl⟩ : ∃ q, k = q + 1 := ⟨k - 1, by simp at hk; omega⟩
    simp only [m70_l0, ge_drop h, cond_false, samples, List.append_nil]
  | x :: r, i, k, o, h, hk, ho => by
    obtain ⟨k, rfl⟩ : ∃ q, k = q + 1 := ⟨k - 1, by simp at hk; omega⟩
    have hlt := drop_lt h
    simp only [m70_l0, lt_drop h, inB_drop h, rd_drop h, wrap_drop h (show fr.length < 4611686018427387904 by omega), cond_true, hb, he]
    rw [m96_eq hN hw hf, Option.bind_some]
    simp only [samples]
    cases smp w s0 s1 s2 s3 f x with
    | none => 
      simp only [cond_false]
      exact m70_l0_eq hN hw hf hb he hl r (i + 1) k o (succ_drop h) (by simp at hk; omega) (by omega)
    | some v =>
      simp only [cond_true]
      rw [room_small (by simp; omega) (by omega), cond_true, m70_l0_eq hN hw hf hb he hl r (i + 1) k _ (succ_drop h) (by simp at hk; omega) (by simp; omega)]
      simp
theorem m70_eq (hN : 1000 < N) (hw : 2 ≤ w ∧ w ≤ 32) {n : Int} {f : D2} (hf : fOK w f = true) (hb : inB n fs.length = true) (he : rd z2 fs n = f) (hl : fr.length ≤ 1000) : m70 N w s0 s1 s2 s3 fs fr n = some (samples w s0 s1 s2 s3 f 0 fr) := by
  unfold m70
  have := m70_l0_eq (N := N) (s0 := s0) (s1 := s1) (s2 := s2) (s3 := s3) (by omega) hw hf hb he hl fr 0 N [] rfl (by omega) (by simp)
  rw [show ((0 : Nat) : Int) = 0 from rfl] at this
  rw [this]
  rfl
theorem m69_eq (h : fs.length < 4611686018427387904) (n : Int) : m69 N w s0 s1 s2 s3 fs n = some (within n 0 ((fs.length : Int) - 1)) := by
  unfold m69
  rw [m79_eq, Option.bind_some, wrap_len h, bif_tf]
theorem m19_eq (hN : 1000 < N) (hf : ∀ f, f ∈ fs → I64 f.2.2.1) (n : Int) : m19 N w s0 s1 s2 s3 fs fr n = some (readR w s0 s1 s2 s3 fs fr n) := by
  unfold m19 readR
  rw [m68_eq (by omega) hf, Option.bind_some]
  cases h1 : layOK w s0 s1 s2 s3 fs with
  | false => rfl
  | true =>
    by_cases h2 : fr.length ≤ 200
    · simp only [h2, decide_true, cond_true]
      have e : decide ((0 : Int) ≠ 0) = false := rfl
      rw [e]
      simp only [cond_false]
      rw [m69_eq (by have := (layOK_f h1).1; omega), Option.bind_some]
      cases h3 : within n 0 ((fs.length : Int) - 1) with
      | false => rfl
      | true =>
        obtain ⟨f, e1, e2, e3⟩ := within_field h3
        have hok := (layOK_f h1).2 f (List.mem_of_getElem? e1)
        simp only [cond_true]
        rw [m70_eq hN (layOK_w h1) hok e2 e3 (by omega), Option.bind_some, e3]
    · simp only [h2, decide_false, cond_true, cond_false]
      rfl
end
end Go.VM

set_option linter.unusedVariables false
set_option linter.unusedSimpArgs false
namespace Go.VM
section
variable {N : Nat} {w s0 s1 s2 s3 b : Int} {fs : List D2} {fr : List (List Int)} {sub : List Int}
/-- The first one with the greatest value. -/
def peakF : D6 → List D6 → D6
  | a, [] => a
  | a, y :: r => peakF (bif decide (a.2 < y.2) then y else a) r
theorem m20_l0_eq {c0 c1 c2 c3 c4 : Int} {gs : List D2} {fr' : List (List Int)} {f : D2} : ∀ (ys : List D6) (a : D6), 0 ≤ a.1 → (∀ y, y ∈ ys → 0 ≤ y.1) →
    m20_l0 N ys a.1 a.2 c0 c1 c2 c3 c4 gs fr' sub f.1 f.2.1 f.2.2.1 f.2.2.2.1 f.2.2.2.2.1 f.2.2.2.2.2.1 f.2.2.2.2.2.2.1 f.2.2.2.2.2.2.2.1 f.2.2.2.2.2.2.2.2 = some ((peakF a ys).1, ((peakF a ys).2, (c0, (c1, (c2, (c3, (c4, (gs, (fr', (sub, f))))))))))
  | [], a, _, _ => by simp only [m20_l0, peakF]
  | y :: ys, a, h, hy => by
    have e : decide (a.1 < 0) = false := by simp; omega
    simp only [m20_l0, e, cond_false, peakF]
    cases c : decide (a.2 < y.2) with
    | false => simp only [cond_false]; exact m20_l0_eq ys a h (fun z hz => hy z (by simp [hz]))
    | true => simp only [cond_true]; exact m20_l0_eq ys y (hy y (by simp)) (fun z hz => hy z (by simp [hz]))
theorem samples_pos (f : D2) : ∀ (r : List (List Int)) (i : Nat) (y : D6), y ∈ samples w s0 s1 s2 s3 f i r → 0 ≤ y.1
  | [], i, y, h => by simp [samples] at h
  | x :: r, i, y, h => by
    simp only [samples] at h
    cases c : smp w s0 s1 s2 s3 f x with
    | none => rw [c] at h; exact samples_pos f r (i + 1) y h
    | some v =>
      rw [c] at h
      simp only [List.mem_cons] at h
      rcases h with rfl | h
      · simp
      · exact samples_pos f r (i + 1) y h
/-- What Peak makes of what Read answers. -/
def peakS : List D6 → D11
  | [] => (0, (0, 3))
  | y :: r => ((peakF y r).1, ((peakF y r).2, 0))
def peakR (w s0 s1 s2 s3 : Int) (fs : List D2) (fr : List (List Int)) (n : Int) : D11 := bif decide ((readR w s0 s1 s2 s3 fs fr n).2 = 0) then peakS (readR w s0 s1 s2 s3 fs fr n).1 else (0, (0, (readR w s0 s1 s2 s3 fs fr n).2))
theorem peakF_pos : ∀ (ys : List D6) (a : D6), 0 ≤ a.1 → (∀ y, y ∈ ys → 0 ≤ y.1) → 0 ≤ (peakF a ys).1
  | [], a, h, _ => h
  | y :: ys, a, h, hy => by
    simp only [peakF]
    cases decide (a.2 < y.2) with
    | false => exact peakF_pos ys a h (fun z hz => hy z (by simp [hz]))
    | true => exact peakF_pos ys y (hy y (by simp)) (fun z hz => hy z (by simp [hz]))
theorem m20_eq (hN : 300 < N) (hf : ∀ f, f ∈ fs → I64 f.2.2.1) (n : Int) : m20 N w s0 s1 s2 s3 fs fr n = some (peakR w s0 s1 s2 s3 fs fr n) := by
  unfold m20 peakR readR
  rw [m66_eq hN hf (by simp), Option.bind_some]
  unfold fieldR tapeR
  cases h1 : layOK w s0 s1 s2 s3 fs with
  | false => rfl
  | true =>
    by_cases h2 : fr.length ≤ 200
    · simp only [h2, decide_true, cond_true, List.any_cons, List.any_nil, Bool.or_false]
      cases h3 : within n 0 ((fs.length : Int) - 1) with
      | false => rfl
      | true =>
        obtain ⟨f, e1, e2, e3⟩ := within_field h3
        have hok := (layOK_f h1).2 f (List.mem_of_getElem? e1)
        simp only [Bool.not_true, cond_false, cond_true]
        have e : decide ((0 : Int) ≠ 0) = false := rfl
        rw [e]
        simp only [cond_false]
        rw [m67_eq e2, Option.bind_some, e3]
        simp only
        rw [i113_eq hok h2 hN, Option.bind_some]
        have e0 : decide True = true := rfl
        rw [e0]
        simp only [cond_true]
        have hpos := samples_pos (w := w) (s0 := s0) (s1 := s1) (s2 := s2) (s3 := s3) f fr 0
        cases hs : samples w s0 s1 s2 s3 f 0 fr with
        | nil => rfl
        | cons y r =>
          rw [hs] at hpos
          have hr : ∀ z, z ∈ r → 0 ≤ z.1 := fun z hz => hpos z (by simp [hz])
          have hy : 0 ≤ y.1 := hpos y (by simp)
          have := m20_l0_eq (N := N) (sub := fr.map (subf w s0 s1 s2 s3)) (c0 := w) (c1 := s0) (c2 := s1) (c3 := s2) (c4 := s3) (gs := fs) (fr' := fr) (f := f) r y hy hr
          have e4 : decide ((-1 : Int) < 0) = true := rfl
          simp only [m20_l0, e4, cond_true, this, Option.bind_some]
          have e5 : decide ((peakF y r).1 < 0) = false := by have := peakF_pos r y hy hr; simp; omega
          rw [e5]
          rfl
    · simp only [h2, decide_false, cond_true, cond_false]
      rfl
theorem peakF_mem : ∀ (ys : List D6) (a : D6), peakF a ys = a ∨ peakF a ys ∈ ys
  | [], a => .inl rfl
  | y :: ys, a => by
    simp only [peakF]
    cases decide (a.2 < y.2) with
    | false =>
      rcases peakF_mem ys a with h | h
      · exact .inl h
      · exact .inr (by simp only [cond_false]; simp [h])
    | true =>
      rcases peakF_mem ys y with h | h
      · exact .inr (by simp only [cond_true]; simp [h])
      · exact .inr (by simp only [cond_true]; simp [h])
theorem peakF_ge : ∀ (ys : List D6) (a : D6), a.2 ≤ (peakF a ys).2 ∧ ∀ y, y ∈ ys → y.2 ≤ (peakF a ys).2
  | [], a => ⟨Int.le_refl _, by simp⟩
  | y :: ys, a => by
    simp only [peakF]
    cases c : decide (a.2 < y.2) with
    | false =>
      have c : ¬ a.2 < y.2 := by simpa using c
      obtain ⟨h1, h2⟩ := peakF_ge ys a
      simp only [cond_false]
      refine ⟨h1, fun z hz => ?_⟩
      rcases List.mem_cons.1 hz with rfl | hz
      · omega
      · exact h2 z hz
    | true =>
      have c : a.2 < y.2 := by simpa using c
      obtain ⟨h1, h2⟩ := peakF_ge ys y
      simp only [cond_true]
      refine ⟨by omega, fun z hz => ?_⟩
      rcases List.mem_cons.1 hz with rfl | hz
      · exact h1
      · exact h2 z hz
theorem m37_ex (M : Nat) : m37 (M + 1001) [(([] : List Int), (([0, 1] : List Int), false)), (([0] : List Int), (([2] : List Int), true)), (([0, 1] : List Int), (([] : List Int), false))] [(0, 10), (5, 20), (8, 30)] 1 5 = some (30, 0) := by kernel_rfl
theorem m16_eq (hN : 1000 < N) : m16 N = some true := by
  obtain ⟨M, rfl⟩ : ∃ M, N = M + 1001 := ⟨N - 1001, by omega⟩
  unfold m16
  simp only [m64, Option.bind_some]
  rw [m20_eq (by omega) (by intro f hf; simp only [List.mem_cons, List.not_mem_nil, or_false] at hf; rcases hf with rfl | rfl | rfl <;> (constructor <;> decide)), Option.bind_some, m37_ex, Option.bind_some]
  have : peakR 4 100 200 300 400 [(1, (0, (8, (true, (1, (2, (10, (1, 0)))))))), (2, (4, (3, (false, (5, (1, (0, (2, 1)))))))), (3, (0, (1, (false, (1, (1, (0, (1, 0))))))))] [[100, 4, 0, 0], [200, 254, 48, 1], [300, 6, 0, 0]] 0 = (2, (26, 0)) := by kernel_rfl
  rw [this]
  rfl
end
end Go.VM

set_option linter.unusedVariables false
set_option linter.unusedSimpArgs false
namespace Go.VM
section
variable {N : Nat} {w s0 s1 s2 s3 b : Int} {fs : List D2} {fr : List (List Int)} {sub : List Int}
theorem m21_l0_eq {l : List D6} (hl : l.length < 4611686018427387904) : ∀ (r : List D6) (i k : Nat) (a : D6), l.drop i = r → r.length < k → m21_l0 N k l a.1 a.2 (i : Int) = some (peakF a r)
  | [], i, k, a, h, hk => by
    obtain ⟨k, rfl⟩ : ∃ q, k = q + 1 := ⟨k - 1, by simp at hk; omega⟩
    simp only [m21_l0, ge_drop h, cond_false, peakF]
  | x :: r, i, k, a, h, hk => by
    obtain ⟨k, rfl⟩ : ∃ q, k = q + 1 := ⟨k - 1, by simp at hk; omega⟩
    have ih := fun a => m21_l0_eq hl r (i + 1) k a (succ_drop h) (by simp at hk; omega)
    simp only [m21_l0, lt_drop h, inB_drop h, rd_drop h, wrap_drop h hl, cond_true, peakF, ih]
    cases decide (a.2 < x.2) <;> rfl
theorem readR_len (hl : fr.length ≤ 1000) (n : Int) : (readR w s0 s1 s2 s3 fs fr n).1.length ≤ 1000 := by
  unfold readR
  cases layOK w s0 s1 s2 s3 fs with
  | false => simp
  | true =>
    cases decide (fr.length ≤ 200) with
    | false => simp
    | true =>
      cases within n 0 ((fs.length : Int) - 1) with
      | false => simp
      | true =>
        simp only [cond_true]
        have := samples_len (w := w) (s0 := s0) (s1 := s1) (s2 := s2) (s3 := s3) (rd z2 fs n) fr 0
        omega
theorem m21_eq (hN : 1001 < N) (hl : fr.length ≤ 1000) (hf : ∀ f, f ∈ fs → I64 f.2.2.1) (n : Int) : m21 N w s0 s1 s2 s3 fs fr n = some (peakR w s0 s1 s2 s3 fs fr n) := by
  unfold m21 peakR
  rw [m19_eq (by omega) hf, Option.bind_some]
  have hlen := readR_len (w := w) (s0 := s0) (s1 := s1) (s2 := s2) (s3 := s3) (fs := fs) hl n
  by_cases c : (readR w s0 s1 s2 s3 fs fr n).2 = 0
  · have e1 : decide ((readR w s0 s1 s2 s3 fs fr n).2 ≠ 0) = false := by simp [c]
    have e2 : decide ((readR w s0 s1 s2 s3 fs fr n).2 = 0) = true := by simp [c]
    rw [e1, e2]
    simp only [cond_false, cond_true]
    generalize (readR w s0 s1 s2 s3 fs fr n).1 = l at hlen ⊢
    cases l with
    | nil => rfl
    | cons y r =>
      have e3 : decide ((((y :: r).length : Nat) : Int) = 0) = false := by simp; omega
      have e4 : inB 0 (y :: r).length = true := inB_int (by omega) (by simp)
      have e5 : rd z6 (y :: r) 0 = y := rfl
      have := m21_l0_eq (N := N) (l := y :: r) (by omega) (y :: r) 0 N y rfl (by omega)
      rw [show ((0 : Nat) : Int) = 0 from rfl] at this
      simp only [e3, e4, e5, cond_false, cond_true, this, Option.bind_some, peakF, peakS]
      have e6 : decide (y.2 < y.2) = false := by simp
      rw [e6]
      rfl
  · have e1 : decide ((readR w s0 s1 s2 s3 fs fr n).2 ≠ 0) = true := by simp [c]
    have e2 : decide ((readR w s0 s1 s2 s3 fs fr n).2 = 0) = false := by simp [c]
    rw [e1, e2]
    rfl
theorem m22_l0_eq {l : List D6} (hl : l.length < 4611686018427387904) : ∀ (r : List D6) (i k : Nat), l.drop i = r → r.length < k → m22_l0 N k l l (i : Int) = some (.inr ())
  | [], i, k, h, hk => by
    obtain ⟨k, rfl⟩ : ∃ q, k = q + 1 := ⟨k - 1, by simp at hk; omega⟩
    simp only [m22_l0, ge_drop h, cond_false]
  | x :: r, i, k, h, hk => by
    obtain ⟨k, rfl⟩ : ∃ q, k = q + 1 := ⟨k - 1, by simp at hk; omega⟩
    simp only [m22_l0, lt_drop h, inB_drop h, rd_drop h, wrap_drop h hl, cond_true, decide_true, Bool.and_self, Bool.not_true, cond_false]
    exact m22_l0_eq hl r (i + 1) k (succ_drop h) (by simp at hk; omega)
theorem m22_eq {l : List D6} (hN : l.length < N) (hl : l.length < 4611686018427387904) : m22 N l l = some true := by
  unfold m22
  have e : decide (((l.length : Nat) : Int) ≠ ((l.length : Nat) : Int)) = false := by simp
  have := m22_l0_eq (N := N) hl l 0 N rfl hN
  rw [show ((0 : Nat) : Int) = 0 from rfl] at this
  rw [e, cond_false, this]
  rfl
theorem m3_l0_eq {l : List D6} (hl : l.length < 4611686018427387904) {p : D6} (hp : ∀ y, y ∈ l → y.2 ≤ p.2) : ∀ (r : List D6) (i k : Nat) (is : Bool), l.drop i = r → r.length < k → m3_l0 N k l p.1 p.2 is (i : Int) = some (.inr (is || r.any (fun y => decide (y = p))))
  | [], i, k, is, h, hk => by
    obtain ⟨k, rfl⟩ : ∃ q, k = q + 1 := ⟨k - 1, by simp at hk; omega⟩
    simp only [m3_l0, ge_drop h, cond_false, List.any_nil, Bool.or_false]
  | x :: r, i, k, is, h, hk => by
    obtain ⟨k, rfl⟩ : ∃ q, k = q + 1 := ⟨k - 1, by simp at hk; omega⟩
    have ih := fun is => m3_l0_eq hl hp r (i + 1) k is (succ_drop h) (by simp at hk; omega)
    have e : decide (p.2 < x.2) = false := by
      have := hp x (List.mem_of_getElem? (drop_get h))
      simp
      omega
    have e2 : (decide (x.1 = p.1) && decide (x.2 = p.2)) = decide (x = p) := by
      rw [Bool.eq_iff_iff]
      simp [Prod.ext_iff]
    simp only [m3_l0, lt_drop h, inB_drop h, rd_drop h, wrap_drop h hl, cond_true, e, e2, cond_false, ih, List.any_cons]
    cases is <;> cases decide (x = p) <;> simp
theorem m3_eq (hN : 1001 < N) (hf : ∀ f, f ∈ fs → I64 f.2.2.1) (n : Int) : m3 N w s0 s1 s2 s3 fs fr n = some true := by
  unfold m3
  rw [m15_eq (by omega), Option.bind_some]
  cases hfar : farT fs fr with
  | true => simp only [cond_true, m16_eq (show 1000 < N by omega), Option.bind_some]
  | false =>
    obtain ⟨g1, g2, g3⟩ := farT_not hfar
    simp only [cond_false]
    rw [m17_eq (by omega) hfar, Option.bind_some]
    simp only
    rw [m18_eq (by omega) hf, Option.bind_some, m19_eq (by omega) hf, Option.bind_some, m20_eq (by omega) hf, Option.bind_some, m21_eq hN (by omega) hf, Option.bind_some]
    have hlen := readR_len (w := w) (s0 := s0) (s1 := s1) (s2 := s2) (s3 := s3) (fs := fs) (fr := fr) (by omega) n
    rw [m22_eq (by omega) (by omega), Option.bind_some, m16_eq (by omega)]
    simp only [cond_true, ne_eq, not_true_eq_false, decide_false, cond_false, Option.bind_some]
    unfold peakR
    by_cases c : (readR w s0 s1 s2 s3 fs fr n).2 = 0
    · have e2 : decide ((readR w s0 s1 s2 s3 fs fr n).2 = 0) = true := by simp [c]
      rw [e2]
      simp only [cond_true]
      generalize (readR w s0 s1 s2 s3 fs fr n).1 = l at hlen ⊢
      cases l with
      | nil => rfl
      | cons y r =>
        have hge := peakF_ge r y
        have hmem : peakF y r ∈ y :: r := by
          rcases peakF_mem r y with h | h
          · simp [h]
          · simp [h]
        have := m3_l0_eq (N := N) (l := y :: r) (by omega) (p := peakF y r) (fun z hz => by
          rcases List.mem_cons.1 hz with rfl | hz
          · exact hge.1
          · exact hge.2 z hz) (y :: r) 0 N false rfl (by omega)
        rw [show ((0 : Nat) : Int) = 0 from rfl] at this
        have e7 : (y :: r).any (fun z => decide (z = peakF y r)) = true := by
          rw [List.any_eq_true]
          exact ⟨_, hmem, by simp⟩
        simp only [peakS, this, e7, Option.bind_some, Bool.false_or, not_true_eq_false, decide_false, cond_false, cond_true]
    · have e2 : decide ((readR w s0 s1 s2 s3 fs fr n).2 = 0) = false := by simp [c]
      rw [e2]
      simp only [cond_false, c, not_false_eq_true, decide_true, cond_true]
end

theorem i64_of {z : Int} (h : (Go.Lit.int .i64 z).wf = true) : I64 z := by
  simp [Go.Lit.wf, Go.IntKind.min, Go.IntKind.max, Go.IntKind.signed, Go.IntKind.bits] at h
  exact ⟨by omega, by omega⟩
theorem fields_i64 {fs : List D2} (h : wfT (.slice T2) fs) : ∀ f, f ∈ fs → I64 f.2.2.1 := fun f hf => i64_of (h.2 f hf).2.2.1
theorem pure3 (x : pt (tysL m3_a)) (hx : wfP (tysL m3_a) x) : ∃ N, (m3_s N).f x = some true := by
  refine ⟨1002, ?_⟩
  show m3 1002 _ _ _ _ _ _ _ _ = _
  exact m3_eq (by omega) (fields_i64 hx.2.2.2.2.2.1) _
end Go.VM
