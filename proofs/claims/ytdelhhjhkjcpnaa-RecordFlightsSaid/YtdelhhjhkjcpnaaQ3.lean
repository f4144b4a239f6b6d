/- Part Q3 of a claim: a machine over the model on plain data, what it makes of the program, plain laws. -/
import Derived.Test.YtdelhhjhkjcpnaaQ2
set_option linter.unusedVariables false
set_option linter.unusedSimpArgs false
namespace Go.VM
def loV (f : D2) : Int := bif f.2.2.2.1 then -((2 ^ (f.2.2.1.toNat - 1) : Nat) : Int) else 0
def hiV (f : D2) : Int := bif f.2.2.2.1 then ((2 ^ (f.2.2.1.toNat - 1) : Nat) : Int) - 1 else ((2 ^ f.2.2.1.toNat : Nat) : Int) - 1
/-- The number fits into the field. -/
def canV (f : D2) (v : Int) : Bool := within v (loV f) (hiV f)
def encV (f : D2) (v : Int) : Nat := (bif decide (v < 0) then v + ((2 ^ f.2.2.1.toNat : Nat) : Int) else v).toNat
theorem pow_pred {n : Nat} (h : 1 ≤ n) : 2 ^ n = 2 * 2 ^ (n - 1) := by
  have : n = (n - 1) + 1 := by omega
  rw [this, Nat.pow_succ]
  simp
  omega
theorem ishl_one {f : D2} {w : Int} (h : fOK w f = true) : ishl .i64 1 f.2.2.1 = ((2 ^ f.2.2.1.toNat : Nat) : Int) := by
  obtain ⟨h1, h2, h3, h4, h5⟩ := mask_lt h
  have hp := pow_le12 (n := f.2.2.1.toNat) (by omega)
  have hp2 : f.2.2.1 = ((f.2.2.1.toNat : Nat) : Int) := by omega
  have := ishl_nat (a := 1) (n := f.2.2.1.toNat) (by omega) (by omega)
  rw [Nat.one_mul, ← hp2] at this
  exact this
theorem can_bd {f : D2} {w : Int} (h : fOK w f = true) {v : Int} (hv : canV f v = true) : encV f v < 2 ^ f.2.2.1.toNat ∧ -((2 ^ (f.2.2.1.toNat - 1) : Nat) : Int) ≤ v ∧ v < ((2 ^ f.2.2.1.toNat : Nat) : Int) ∧ (v < 0 → (encV f v : Int) = v + ((2 ^ f.2.2.1.toNat : Nat) : Int)) ∧ (0 ≤ v → (encV f v : Int) = v) := by
  obtain ⟨h1, h2, h3, h4, h5⟩ := mask_lt h
  have e := pow_pred h2
  have hp := Nat.two_pow_pos (f.2.2.1.toNat - 1)
  unfold canV loV hiV at hv
  unfold encV
  rw [within_iff] at hv
  by_cases hn : v < 0
  · have : decide (v < 0) = true := decide_eq_true hn
    simp only [this, cond_true]
    cases hs : f.2.2.2.1 <;> simp only [hs, cond_true, cond_false] at hv <;> omega
  · have : decide (v < 0) = false := decide_eq_false hn
    simp only [this, cond_false]
    cases hs : f.2.2.2.1 <;> simp only [hs, cond_true, cond_false] at hv <;> omega
theorem can_zero {f : D2} {w : Int} (h : fOK w f = true) : canV f 0 = true := by
  obtain ⟨h1, h2, h3, h4, h5⟩ := mask_lt h
  have hp := Nat.two_pow_pos (f.2.2.1.toNat - 1)
  have hp' := Nat.two_pow_pos (f.2.2.1.toNat)
  unfold canV loV hiV
  rw [within_iff]
  cases f.2.2.2.1 <;> simp only [cond_true, cond_false] <;> omega
theorem m81_eq {N : Nat} {f : D2} {w : Int} (h : fOK w f = true) (v : Int) : m81 N f.1 f.2.1 f.2.2.1 f.2.2.2.1 f.2.2.2.2.1 f.2.2.2.2.2.1 f.2.2.2.2.2.2.1 f.2.2.2.2.2.2.2.1 f.2.2.2.2.2.2.2.2 v = some (canV f v) := by
  obtain ⟨h1, h2, h3, h4, h5⟩ := mask_lt h
  have hp := pow_le12 (n := f.2.2.1.toNat) (by omega)
  have e := pow_pred h2
  have hp' := Nat.two_pow_pos (f.2.2.1.toNat - 1)
  unfold m81 canV loV hiV
  have e0 : decide ((0 : Int) ≤ f.2.2.1) = true := decide_eq_true (by omega)
  have t1 : Int.tdiv (((2 ^ f.2.2.1.toNat : Nat) : Int)) 2 = ((2 ^ (f.2.2.1.toNat - 1) : Nat) : Int) := by
    rw [Int.tdiv_eq_ediv_of_nonneg (Int.natCast_nonneg _)]
    omega
  have t2 : Int.tdiv (0 - ((2 ^ f.2.2.1.toNat : Nat) : Int)) 2 = -((2 ^ (f.2.2.1.toNat - 1) : Nat) : Int) := by
    rw [Int.zero_sub, Int.neg_tdiv, t1]
  simp only [e0, cond_true, ishl_one h, m74_eq, Option.bind_some, bif_tf]
  rw [wrap64 (x := 0 - ((2 ^ f.2.2.1.toNat : Nat) : Int)) (by omega) (by omega), t1, t2, wrap64 (x := -((2 ^ (f.2.2.1.toNat - 1) : Nat) : Int)) (by omega) (by omega), wrap64 (x := ((2 ^ (f.2.2.1.toNat - 1) : Nat) : Int)) (by omega) (by omega), wrap64 (x := ((2 ^ (f.2.2.1.toNat - 1) : Nat) : Int) - 1) (by omega) (by omega), wrap64 (x := ((2 ^ f.2.2.1.toNat : Nat) : Int) - 1) (by omega) (by omega)]
  cases f.2.2.2.1 <;> rfl
theorem enc_bit (f : D2) {e : Nat} (he : e < 2 ^ f.2.2.1.toNat) (j : Nat) : (e * 2 ^ f.2.1.toNat).testBit j = (decide (f.2.1.toNat ≤ j) && decide (j < f.2.1.toNat + f.2.2.1.toNat) && e.testBit (j - f.2.1.toNat)) := by
  rw [Nat.testBit_mul_two_pow]
  by_cases h1 : f.2.1.toNat ≤ j
  · by_cases h2 : j < f.2.1.toNat + f.2.2.1.toNat
    · simp [h1, h2]
    · have : e.testBit (j - f.2.1.toNat) = false := Nat.testBit_lt_two_pow (Nat.lt_of_lt_of_le he (Nat.pow_le_pow_right (by omega) (by omega)))
      simp [h1, h2, this]
  · simp [h1]
theorem enc_and (f : D2) {e : Nat} (he : e < 2 ^ f.2.2.1.toNat) : (e * 2 ^ f.2.1.toNat) &&& maskN f = e * 2 ^ f.2.1.toNat := by
  apply Nat.eq_of_testBit_eq
  intro j
  rw [Nat.testBit_and, enc_bit f he, mask_bit]
  cases decide (f.2.1.toNat ≤ j) <;> cases decide (j < f.2.1.toNat + f.2.2.1.toNat) <;> simp
theorem enc_lt {f : D2} {w : Int} (h : fOK w f = true) {e : Nat} (he : e < 2 ^ f.2.2.1.toNat) : e * 2 ^ f.2.1.toNat < 4096 := by
  obtain ⟨h1, h2, h3, h4, h5⟩ := mask_lt h
  have : e * 2 ^ f.2.1.toNat < 2 ^ f.2.2.1.toNat * 2 ^ f.2.1.toNat := Nat.mul_lt_mul_of_pos_right he (Nat.two_pow_pos _)
  rw [← Nat.pow_add] at this
  have := pow_le12 (n := f.2.2.1.toNat + f.2.1.toNat) (by omega)
  omega
theorem ishl_neg {v : Int} {n : Nat} (hn : n < 64) (h1 : -9223372036854775808 ≤ v * 2 ^ n) (h2 : v * 2 ^ n < 9223372036854775808) : ishl .i64 v (n : Int) = v * 2 ^ n := by
  unfold ishl
  have : Go.IntKind.bits .i64 = 64 := rfl
  rw [this, Int.toNat_natCast, Nat.min_eq_left (by omega)]
  exact wrap64 h1 h2
/-- The bits of a number, at its place. -/
theorem enc_mask {f : D2} {w : Int} (h : fOK w f = true) {v : Int} (hv : canV f v = true) : iand .i64 (ishl .i64 v f.2.1) (maskN f : Int) = ((encV f v * 2 ^ f.2.1.toNat : Nat) : Int) := by
  obtain ⟨h1, h2, h3, h4, h5⟩ := mask_lt h
  obtain ⟨c1, c2, c3, c4, c5⟩ := can_bd h hv
  have hb : f.2.1 = ((f.2.1.toNat : Nat) : Int) := by omega
  have hpB := pow_le12 (n := f.2.1.toNat) (by omega)
  have hpS := pow_le12 (n := f.2.2.1.toNat) (by omega)
  have hpS1 := pow_le12 (n := f.2.2.1.toNat - 1) (by omega)
  have hpos := Nat.two_pow_pos f.2.1.toNat
  have hel := enc_lt h c1
  by_cases hn : 0 ≤ v
  · have ev := c5 hn
    have hi := ishl_nat (a := encV f v) (n := f.2.1.toNat) (by omega) (by omega)
    rw [ev, ← hb] at hi
    rw [hi, iand_nat (by omega) (by omega), enc_and f c1]
  · have ev := c4 (by omega)
    have hm : -4096 * 4096 ≤ v * ((2 ^ f.2.1.toNat : Nat) : Int) ∧ v * ((2 ^ f.2.1.toNat : Nat) : Int) < 0 := by
      constructor
      · have := mul_bd (a := v) (b := ((2 ^ f.2.1.toNat : Nat) : Int)) (m := 4096) (n := 4096) (by omega) (by omega)
        omega
      · exact Int.mul_neg_of_neg_of_pos (by omega) (by omega)
    have e2 : ((2 : Int) ^ f.2.1.toNat) = ((2 ^ f.2.1.toNat : Nat) : Int) := by simp
    rw [hb, ishl_neg (by omega) (by rw [e2]; omega) (by rw [e2]; omega), Int.toNat_natCast, e2]
    show Go.IntKind.wrap .i64 ((BitVec.ofInt 64 (v * ((2 ^ f.2.1.toNat : Nat) : Int)) &&& BitVec.ofInt 64 ((maskN f : Nat) : Int)).toNat : Int) = _
    have e3 : BitVec.ofInt 64 (v * ((2 ^ f.2.1.toNat : Nat) : Int)) = BitVec.ofInt 64 (((2 ^ 64 + v * ((2 ^ f.2.1.toNat : Nat) : Int)).toNat : Nat) : Int) := by
      apply BitVec.eq_of_toInt_eq
      rw [BitVec.toInt_ofInt, BitVec.toInt_ofInt]
      rw [Int.toNat_of_nonneg (by omega)]
      rw [Int.add_comm]
      rw [show (2 : Int) ^ 64 = ((2 ^ 64 : Nat) : Int) from rfl]
      simp [Int.bmod_def]
    rw [BitVec.toNat_and, e3, ofInt_nat (by omega), ofInt_nat (by omega)]
    have e4 : ((2 ^ 64 + v * ((2 ^ f.2.1.toNat : Nat) : Int)).toNat &&& maskN f) = encV f v * 2 ^ f.2.1.toNat := by
      have e5 : (2 ^ 64 + v * ((2 ^ f.2.1.toNat : Nat) : Int)).toNat = encV f v * 2 ^ f.2.1.toNat + 2 ^ (f.2.1.toNat + f.2.2.1.toNat) * (2 ^ (64 - (f.2.1.toNat + f.2.2.1.toNat)) - 1) := by
        have e6 : 2 ^ (f.2.1.toNat + f.2.2.1.toNat) * 2 ^ (64 - (f.2.1.toNat + f.2.2.1.toNat)) = 2 ^ 64 := by rw [← Nat.pow_add]; congr 1; omega
        have e7 : 2 ^ (f.2.1.toNat + f.2.2.1.toNat) = 2 ^ f.2.2.1.toNat * 2 ^ f.2.1.toNat := by rw [Nat.pow_add, Nat.mul_comm]
        have e8 : ((encV f v * 2 ^ f.2.1.toNat : Nat) : Int) = v * ((2 ^ f.2.1.toNat : Nat) : Int) + ((2 ^ (f.2.1.toNat + f.2.2.1.toNat) : Nat) : Int) := by
          rw [e7]
          simp only [Int.natCast_mul, ev, Int.add_mul]
        rw [Nat.mul_sub, e6, Nat.mul_one]
        have hle := pow_le12 (n := f.2.1.toNat + f.2.2.1.toNat) (by omega)
        omega
      rw [e5]
      apply Nat.eq_of_testBit_eq
      intro j
      rw [Nat.testBit_and, mask_bit, Nat.add_comm, Nat.testBit_two_pow_mul_add _ (by
        rw [Nat.pow_add, Nat.mul_comm]
        exact Nat.mul_lt_mul_of_pos_left c1 hpos)]
      rw [enc_bit f c1]
      by_cases g1 : f.2.1.toNat ≤ j
      · by_cases g2 : j < f.2.1.toNat + f.2.2.1.toNat
        · simp [g1, g2, enc_bit f c1]
        · simp [g1, g2]
      · simp [g1]
    rw [e4, wrap64 (by omega) (by omega)]
theorem nat_or_add {n e : Nat} (hn : n < 4096) (he : e < 4096) (h : n &&& e = 0) : n ||| e = n + e := by
  have h2 := BitVec.add_eq_or_of_and_eq_zero (BitVec.ofNat 16 n) (BitVec.ofNat 16 e) (by
    apply BitVec.eq_of_toNat_eq
    simp
    rw [Nat.mod_eq_of_lt (by omega), Nat.mod_eq_of_lt (by omega), h])
  have h3 := congrArg BitVec.toNat h2
  simp at h3
  rw [Nat.mod_eq_of_lt (show n < 65536 by omega), Nat.mod_eq_of_lt (show e < 65536 by omega)] at h3
  omega
end Go.VM

set_option linter.unusedVariables false
set_option linter.unusedSimpArgs false
namespace Go.VM
def putV (a : List Int) (f : D2) (v : Int) : List Int := wr a f.1 (rd 0 a f.1 + ((encV f v * 2 ^ f.2.1.toNat : Nat) : Int))
/-- The numbers, put into a frame. -/
def packF (s : Int) : List D2 → List Int → List Int → Option (List Int)
  | [], _, a => some a
  | f :: fs, [], a => some a
  | f :: fs, v :: vs, a => bif inS f s then (bif canV f v then packF s fs vs (putV a f v) else none) else (bif decide (v ≠ 0) then none else packF s fs vs a)
/-- What the words hold so far. -/
def PackI (w s : Int) (gs : List D2) (a : List Int) : Prop := a.length = w.toNat ∧ ∀ wd : Nat, 1 ≤ wd → wd < w.toNat → ∃ n : Nat, a[wd]? = some (n : Int) ∧ n < 4096 ∧ ∀ j, n.testBit j = true → ∃ g, g ∈ gs ∧ inS g s = true ∧ g.1 = (wd : Int) ∧ hasBit g j = true
theorem pack_nil {w s x : Int} : PackI w s [] (wr (List.replicate w.toNat 0) 0 x) := by
  refine ⟨by simp [wr], fun wd h1 h2 => ⟨0, ?_, by omega, fun j hj => by simp at hj⟩⟩
  simp [wr, List.getElem?_set, show ¬ 0 = wd from by omega, h2]
theorem pack_skip {w s : Int} {gs : List D2} {a : List Int} {x : D2} (h : PackI w s gs a) : PackI w s (gs ++ [x]) a := by
  refine ⟨h.1, fun wd h1 h2 => ?_⟩
  obtain ⟨n, q1, q2, q3⟩ := h.2 wd h1 h2
  refine ⟨n, q1, q2, fun j hj => ?_⟩
  obtain ⟨g, g1, g2⟩ := q3 j hj
  exact ⟨g, by simp [g1], g2⟩
theorem pack_at {w s : Int} {gs : List D2} {a : List Int} {x : D2} (h : PackI w s gs a) (hg : ∀ g, g ∈ gs → fOK w g = true) (hx : fOK w x = true) (hi : inS x s = true) (hc : gs.any (meetS s x) = false) :
    ∃ n : Nat, a[x.1.toNat]? = some (n : Int) ∧ rd 0 a x.1 = (n : Int) ∧ inB x.1 a.length = true ∧ n < 4096 ∧ n &&& maskN x = 0 := by
  obtain ⟨w1, w2⟩ := fOK_word hx
  obtain ⟨p0, p1, p2, p3, p4⟩ := mask_lt hx
  obtain ⟨n, q1, q2, q3⟩ := h.2 x.1.toNat (by omega) (by omega)
  refine ⟨n, q1, by simp [rd, List.getD, q1], inB_int (by omega) (by rw [h.1]; omega), q2, ?_⟩
  by_cases e : n &&& maskN x = 0
  · exact e
  · exfalso
    obtain ⟨j, h1, h2⟩ := and_ne.1 e
    obtain ⟨g, g1, g2, g3, g4⟩ := q3 j h1
    rw [mask_bit] at h2
    obtain ⟨_, _, _, r3, r4⟩ := mask_lt (hg g g1)
    have : gs.any (meetS s x) = true := by
      rw [List.any_eq_true]
      refine ⟨g, g1, ?_⟩
      simp only [meetS, overlap, hi, g2, Bool.true_and, decide_eq_true_eq]
      simp only [hasBit, Bool.and_eq_true, decide_eq_true_eq] at g4 h2
      refine ⟨by rw [g3]; omega, by omega, by omega⟩
    rw [hc] at this
    cases this
theorem enc_dis {x : D2} {n e : Nat} (he : e < 2 ^ x.2.2.1.toNat) (h : n &&& maskN x = 0) : n &&& (e * 2 ^ x.2.1.toNat) = 0 := by
  rw [← enc_and x he, Nat.and_comm (e * 2 ^ x.2.1.toNat), ← Nat.and_assoc, h, Nat.zero_and]
theorem pack_put {w s : Int} {gs : List D2} {a : List Int} {x : D2} {v : Int} {n : Nat} (h : PackI w s gs a) (hx : fOK w x = true) (hi : inS x s = true) (hv : canV x v = true) (hn : rd 0 a x.1 = (n : Int)) (hn4 : n < 4096) (hd : n &&& maskN x = 0)
    (hn' : a[x.1.toNat]? = some (n : Int)) : PackI w s (gs ++ [x]) (putV a x v) ∧ n + encV x v * 2 ^ x.2.1.toNat < 4096 := by
  obtain ⟨w1, w2⟩ := fOK_word hx
  obtain ⟨p0, p1, p2, p3, p4⟩ := mask_lt hx
  have c1 := (can_bd hx hv).1
  have el := enc_lt hx c1
  have hor := nat_or_add hn4 el (enc_dis c1 hd)
  have hlt : n ||| (encV x v * 2 ^ x.2.1.toNat) < 4096 := by
    have := Nat.or_lt_two_pow (n := 12) (x := n) (y := encV x v * 2 ^ x.2.1.toNat) (by omega) (by omega)
    omega
  refine ⟨⟨by simp [putV, wr, h.1], fun wd h1 h2 => ?_⟩, by omega⟩
  obtain ⟨m, q1, q2, q3⟩ := h.2 wd h1 h2
  by_cases e : x.1.toNat = wd
  · subst e
    rw [hn'] at q1
    simp only [Option.some.injEq] at q1
    have : m = n := by omega
    subst this
    refine ⟨m ||| (encV x v * 2 ^ x.2.1.toNat), ?_, hlt, fun j hj => ?_⟩
    · rw [putV, wr, hn, List.getElem?_set]
      simp only [h.1, h2, if_true]
      rw [hor]
      simp
    · rw [Nat.testBit_or, Bool.or_eq_true] at hj
      rcases hj with hj | hj
      · obtain ⟨g, g1, g2⟩ := q3 j hj
        exact ⟨g, by simp [g1], g2⟩
      · rw [enc_bit x c1] at hj
        simp only [Bool.and_eq_true] at hj
        exact ⟨x, by simp, hi, by omega, by simp only [hasBit, hj.1.1, hj.1.2]; rfl⟩
  · refine ⟨m, by simp [putV, wr, List.getElem?_set, e, q1], q2, fun j hj => ?_⟩
    obtain ⟨g, g1, g2⟩ := q3 j hj
    exact ⟨g, by simp [g1], g2⟩
section
variable {N : Nat} {w s0 s1 s2 s3 b : Int} {fs : List D2} {raw : List Int}
def packE : Option (List Int) → (List Int × Int) ⊕ List Int
  | none => .inl ([], 1)
  | some a => .inr a
theorem m30_l0_eq (s : Int) (hw : 2 ≤ w ∧ w ≤ 32) (hf : ∀ f, f ∈ fs → fOK w f = true) (hl : fs.length ≤ 20) (hr : raw.length = fs.length) : ∀ (r : List D2) (vs : List Int) (i k : Nat) (a : List Int), fs.drop i = r → raw.drop i = vs → r.length < k → PackI w s (fs.take i) a → clear (meetS s) (fs.take i) r = true →
    m30_l0 N k s w s0 s1 s2 s3 fs a raw ((raw.length : Nat) : Int) (i : Int) = some (packE (packF s r vs a))
  | [], vs, i, k, a, h, h', hk, hI, hc => by
    obtain ⟨k, rfl⟩ : ∃ q, k = q + 1 := ⟨k - 1, by simp at hk; omega⟩
    have hi := congrArg List.length h
    simp at hi
    have : raw.drop i = [] := List.drop_eq_nil_of_le (by omega)
    simp only [m30_l0, ge_drop this, cond_false, packF, packE]
  | x :: r, vs, i, k, a, h, h', hk, hI, hc => by
    obtain ⟨k, rfl⟩ : ∃ q, k = q + 1 := ⟨k - 1, by simp at hk; omega⟩
    have hlt := drop_lt h
    cases vs with
    | nil =>
      have := congrArg List.length h'
      simp at this
      omega
    | cons v vs =>
      have hx := hf x (List.mem_of_getElem? (drop_get h))
      obtain ⟨p0, p1, p2, p3, p4⟩ := mask_lt hx
      have hev := fOK_every hx
      have htk : fs.take i ++ [x] = fs.take (i + 1) := by
        rw [List.take_add_one, drop_get h]
        rfl
      simp only [clear, Bool.and_eq_true, Bool.not_eq_true'] at hc
      rw [htk] at hc
      have ih := fun a hI => m30_l0_eq s hw hf hl hr r vs (i + 1) k a (succ_drop h) (succ_drop h') (by simp at hk; omega) hI hc.2
      have e0 : decide ((0 : Int) ≤ x.2.1) = true := decide_eq_true p3
      simp only [m30_l0, lt_drop h', inB_drop h', inB_drop h, rd_drop h, rd_drop h', wrap_drop h (show fs.length < 4611686018427387904 by omega), cond_true, m77_eq x s (show x.2.2.2.2.2.2.2.1 ≠ 0 by omega), m81_eq hx, m78_eq x hx, Option.bind_some, e0, packF]
      cases hi : inS x s with
      | false =>
        simp only [cond_false]
        cases decide (v ≠ 0) with
        | true => rfl
        | false =>
          simp only [cond_false]
          exact ih a (by rw [← htk]; exact pack_skip hI)
      | true =>
        simp only [cond_true]
        cases hv : canV x v with
        | false => rfl
        | true =>
          obtain ⟨n, q1, q2, q3, q4, q5⟩ := pack_at hI (fun g hg => hf g (List.mem_of_mem_take hg)) hx hi hc.1
          obtain ⟨u1, u2⟩ := pack_put hI hx hi hv q2 q4 q5 q1
          have c1 := (can_bd hx hv).1
          have el := enc_lt hx c1
          have e1 : wr a x.1 (ior .i64 (n : Int) (iand .i64 (ishl .i64 v x.2.1) (maskN x : Int))) = putV a x v := by
            rw [enc_mask hx hv, ior_nat (by omega) (by omega), nat_or_add q4 el (enc_dis c1 q5), putV, q2]
            simp
          simp only [q3, cond_true, q2, e1]
          exact ih (putV a x v) (by rw [← htk]; exact u1)
theorem wr_same {a : List Int} {i : Int} {n : Int} (h : a[i.toNat]? = some n) : wr a i n = a := by
  unfold wr
  apply List.ext_getElem?
  intro j
  rw [List.getElem?_set]
  by_cases e : i.toNat = j
  · subst e
    have := (List.getElem?_eq_some_iff.1 h).1
    have h2 := (List.getElem?_eq_some_iff.1 h).2
    simp [this, h2]
  · simp [e]
end
end Go.VM

set_option linter.unusedVariables false
set_option linter.unusedSimpArgs false
namespace Go.VM
section
variable {N : Nat} {w s0 s1 s2 s3 b : Int} {fs : List D2} {raw : List Int}
theorem m32_l0_eq (s : Int) (hw : 2 ≤ w ∧ w ≤ 32) (hf : ∀ f, f ∈ fs → fOK w f = true) (hl : fs.length ≤ 20) (hr : raw.length = fs.length) : ∀ (r : List D2) (vs : List Int) (i k : Nat) (a : List Int), fs.drop i = r → raw.drop i = vs → r.length < k → PackI w s (fs.take i) a → clear (meetS s) (fs.take i) r = true →
    m32_l0 N k s raw w s0 s1 s2 s3 fs a (i : Int) = some (packE (packF s r vs a))
  | [], vs, i, k, a, h, h', hk, hI, hc => by
    obtain ⟨k, rfl⟩ : ∃ q, k = q + 1 := ⟨k - 1, by simp at hk; omega⟩
    have hi := congrArg List.length h
    simp at hi
    have : raw.drop i = [] := List.drop_eq_nil_of_le (by omega)
    simp only [m32_l0, ge_drop this, cond_false, packF, packE]
  | x :: r, vs, i, k, a, h, h', hk, hI, hc => by
    obtain ⟨k, rfl⟩ : ∃ q, k = q + 1 := ⟨k - 1, by simp at hk; omega⟩
    have hlt := drop_lt h
    cases vs with
    | nil =>
      have := congrArg List.length h'
      simp at this
      omega
    | cons v vs =>
      have hx := hf x (List.mem_of_getElem? (drop_get h))
      obtain ⟨p0, p1, p2, p3, p4⟩ := mask_lt hx
      obtain ⟨w1, w2⟩ := fOK_word hx
      have hev := fOK_every hx
      have htk : fs.take i ++ [x] = fs.take (i + 1) := by
        rw [List.take_add_one, drop_get h]
        rfl
      simp only [clear, Bool.and_eq_true, Bool.not_eq_true'] at hc
      rw [htk] at hc
      have ih := fun a hI => m32_l0_eq s hw hf hl hr r vs (i + 1) k a (succ_drop h) (succ_drop h') (by simp at hk; omega) hI hc.2
      have hpS := pow_le12 (n := x.2.2.1.toNat) (by omega)
      have hpS1 := pow_le12 (n := x.2.2.1.toNat - 1) (by omega)
      have hpos1 := Nat.two_pow_pos (x.2.2.1.toNat - 1)
      have hpos := Nat.two_pow_pos (x.2.2.1.toNat)
      obtain ⟨n, q1, q2, q3⟩ := hI.2 x.1.toNat (by omega) (by omega)
      have q4 : rd 0 a x.1 = (n : Int) := by simp [rd, List.getD, q1]
      have q5 : inB x.1 a.length = true := inB_int (by omega) (by rw [hI.1]; omega)
      have u1 : Go.IntKind.wrap .u64 x.2.2.1 = x.2.2.1 := wrapu64 (by omega) (by omega)
      have u2 : Go.IntKind.wrap .u64 (Go.IntKind.wrap .i64 (x.2.2.1 - 1)) = ((x.2.2.1.toNat - 1 : Nat) : Int) := by
        rw [wrap64 (by omega) (by omega), wrapu64 (by omega) (by omega)]
        omega
      have u3 : Go.IntKind.wrap .u64 x.2.1 = x.2.1 := wrapu64 (by omega) (by omega)
      have e0 : decide ((0 : Int) ≤ x.2.1) = true := decide_eq_true p3
      have e1 : decide ((0 : Int) ≤ x.2.2.1) = true := decide_eq_true (by omega)
      have e2 : decide ((0 : Int) ≤ ((x.2.2.1.toNat - 1 : Nat) : Int)) = true := decide_eq_true (by omega)
      have i1 : ishl .i64 1 ((x.2.2.1.toNat - 1 : Nat) : Int) = ((2 ^ (x.2.2.1.toNat - 1) : Nat) : Int) := by
        have := ishl_nat (a := 1) (n := x.2.2.1.toNat - 1) (by omega) (by omega)
        rw [Nat.one_mul] at this
        exact this
      have i2 : ishl .i64 (-1) ((x.2.2.1.toNat - 1 : Nat) : Int) = -((2 ^ (x.2.2.1.toNat - 1) : Nat) : Int) := by
        have e : ((2 : Int) ^ (x.2.2.1.toNat - 1)) = ((2 ^ (x.2.2.1.toNat - 1) : Nat) : Int) := by simp
        rw [ishl_neg (by omega) (by rw [e]; omega) (by rw [e]; omega), e]
        omega
      have e3 : decide (x.2.2.2.2.2.2.2.1 ≠ (0 : Int)) = true := decide_eq_true (by omega)
      have e4 : decide (Int.tmod s x.2.2.2.2.2.2.2.1 ≠ x.2.2.2.2.2.2.2.2) = !(inS x s) := by
        unfold inS
        cases hd : decide (Int.tmod s x.2.2.2.2.2.2.2.1 = x.2.2.2.2.2.2.2.2) <;> simp_all
      have k1 : Go.IntKind.wrap .i64 (((2 ^ (x.2.2.1.toNat - 1) : Nat) : Int) - 1) = ((2 ^ (x.2.2.1.toNat - 1) : Nat) : Int) - 1 := wrap64 (by omega) (by omega)
      have k2 : Go.IntKind.wrap .i64 (((2 ^ x.2.2.1.toNat : Nat) : Int) - 1) = ((2 ^ x.2.2.1.toNat : Nat) : Int) - 1 := wrap64 (by omega) (by omega)
      have hcan : canV x v = bif x.2.2.2.1 then within v (-((2 ^ (x.2.2.1.toNat - 1) : Nat) : Int)) (((2 ^ (x.2.2.1.toNat - 1) : Nat) : Int) - 1) else within v 0 (((2 ^ x.2.2.1.toNat : Nat) : Int) - 1) := by
        unfold canV loV hiV
        cases x.2.2.2.1 <;> rfl
      -- what is added
      have main : canV x v = true → (bif inS x s then (bif decide (v < 0) then m32_l0 N k s raw w s0 s1 s2 s3 fs (wr a x.1 (Go.IntKind.wrap .i64 ((n : Int) + ishl .i64 (Go.IntKind.wrap .i64 (v + ((2 ^ x.2.2.1.toNat : Nat) : Int))) x.2.1))) ((i + 1 : Nat) : Int) else m32_l0 N k s raw w s0 s1 s2 s3 fs (wr a x.1 (Go.IntKind.wrap .i64 ((n : Int) + ishl .i64 v x.2.1))) ((i + 1 : Nat) : Int)) else some (packE (packF s r vs (putV a x v)))) = some (packE (packF s r vs (putV a x v))) := by
        intro hv
        cases hi : inS x s with
        | false => rfl
        | true =>
          obtain ⟨n', r1, r2, r3, r4, r5⟩ := pack_at hI (fun g hg => hf g (List.mem_of_mem_take hg)) hx hi hc.1
          have : n' = n := by
            rw [q1] at r1
            simp only [Option.some.injEq] at r1
            omega
          subst this
          obtain ⟨v1, v2⟩ := pack_put hI hx hi hv q4 q2 r5 q1
          obtain ⟨c1, c2, c3, c4, c5⟩ := can_bd hx hv
          have hB : x.2.1 = ((x.2.1.toNat : Nat) : Int) := by omega
          have hsh : ishl .i64 ((encV x v : Nat) : Int) x.2.1 = ((encV x v * 2 ^ x.2.1.toNat : Nat) : Int) := by
            have el := enc_lt hx c1
            have := ishl_nat (a := encV x v) (n := x.2.1.toNat) (by omega) (by omega)
            rw [← hB] at this
            exact this
          have hput : wr a x.1 (Go.IntKind.wrap .i64 ((n' : Int) + ((encV x v * 2 ^ x.2.1.toNat : Nat) : Int))) = putV a x v := by
            rw [wrap64 (by omega) (by omega), putV, q4]
          rw [htk] at v1
          simp only [cond_true]
          cases hn : decide (v < 0) with
          | true =>
            have hn := of_decide_eq_true hn
            rw [cond_true, wrap64 (x := v + ((2 ^ x.2.2.1.toNat : Nat) : Int)) (by omega) (by omega), ← c4 hn, hsh, hput]
            exact ih _ v1
          | false =>
            have hn := of_decide_eq_false hn
            have e := c5 (by omega)
            rw [e] at hsh
            rw [cond_false, hsh, hput]
            exact ih _ v1
      have zero : v = 0 → inS x s = false → m32_l0 N k s raw w s0 s1 s2 s3 fs (wr a x.1 (Go.IntKind.wrap .i64 ((n : Int) + ishl .i64 v x.2.1))) ((i + 1 : Nat) : Int) = some (packE (packF s r vs a)) := by
        intro hv hi
        subst hv
        have : ishl .i64 0 x.2.1 = 0 := by
          unfold ishl
          rw [Int.zero_mul]
          exact wrap64 (by omega) (by omega)
        rw [this, Int.add_zero, wrap64 (by omega) (by omega), wr_same q1]
        exact ih a (by rw [← htk]; exact pack_skip hI)
      have hz := can_zero hx
      simp only [m32_l0, lt_drop h', inB_drop h', inB_drop h, rd_drop h, rd_drop h', wrap_drop h (show fs.length < 4611686018427387904 by omega), cond_true, u1, u2, u3, e0, e1, e2, e3, e4, i1, i2, ishl_one hx, m79_eq, Option.bind_some, k1, k2, q4, q5, packF]
      cases hs : x.2.2.2.1 <;> rw [hs] at hcan <;> simp only [cond_true, cond_false] at hcan ⊢ <;> rw [← hcan] <;> (
        cases hv : canV x v with
        | false =>
          cases hi : inS x s with
          | true => rfl
          | false =>
            have : decide (v ≠ 0) = true := decide_eq_true fun e => by subst e; rw [hz] at hv; cases hv
            simp only [cond_false, this, cond_true]
            rfl
        | true =>
          have hm := main hv
          cases hi : inS x s with
          | true =>
            rw [hi] at hm
            simp only [cond_true, cond_false, Bool.not_true] at hm ⊢
            exact hm
          | false =>
            simp only [cond_true, cond_false, Bool.not_false]
            by_cases e : v = 0
            · have d1 : decide (v ≠ 0) = false := by simp [e]
              have d2 : decide (v < 0) = false := by simp [e]
              simp only [d1, d2, cond_false]
              exact zero e hi
            · have d1 : decide (v ≠ 0) = true := by simp [e]
              simp only [d1, cond_true]
              rfl)
end
end Go.VM

set_option linter.unusedVariables false
set_option linter.unusedSimpArgs false
namespace Go.VM
def frame0 (w s0 s1 s2 s3 s : Int) : List Int := wr (List.replicate w.toNat 0) 0 (rd 0 [s0, s1, s2, s3] s)
def framesR (w s0 s1 s2 s3 : Int) (fs : List D2) (s : Int) (raw : List Int) : List Int × Int :=
  bif layOK w s0 s1 s2 s3 fs then (bif within s 0 3 then (bif decide (raw.length = fs.length) then (match packF s fs raw (frame0 w s0 s1 s2 s3 s) with
    | none => ([], 1)
    | some a => (a, 0)) else ([], 1)) else ([], 1)) else ([], 120)
section
variable {N : Nat} {w s0 s1 s2 s3 b : Int} {fs : List D2} {raw : List Int}
theorem layOK_clear (h : layOK w s0 s1 s2 s3 fs = true) {s : Int} (hs : within s 0 3 = true) : clear (meetS s) [] fs = true := by
  simp only [layOK, Bool.and_eq_true] at h
  rw [within_iff] at hs
  have : s = 0 ∨ s = 1 ∨ s = 2 ∨ s = 3 := by omega
  rcases this with rfl | rfl | rfl | rfl
  · exact h.2.2.2.2.1
  · exact h.2.2.2.2.2.1
  · exact h.2.2.2.2.2.2.1
  · exact h.2.2.2.2.2.2.2
theorem m30_eq (hN : 100 < N) (hf : ∀ f, f ∈ fs → I64 f.2.2.1) (s : Int) : m30 N w s0 s1 s2 s3 fs s raw = some (framesR w s0 s1 s2 s3 fs s raw) := by
  unfold m30 framesR
  rw [m27_eq hN hf, Option.bind_some]
  cases h1 : layOK w s0 s1 s2 s3 fs with
  | false => rfl
  | true =>
    have e : decide ((0 : Int) ≠ 0) = false := rfl
    simp only [cond_true, e, cond_false, m74_eq, Option.bind_some]
    cases h2 : within s 0 3 with
    | false => rfl
    | true =>
      have hs := within_iff.1 h2
      obtain ⟨g1, g2⟩ := layOK_f h1
      have hw := layOK_w h1
      by_cases h3 : raw.length = fs.length
      · have d1 : decide (((raw.length : Nat) : Int) ≠ ((fs.length : Nat) : Int)) = false := by simp [h3]
        have d2 : decide (raw.length = fs.length) = true := by simp [h3]
        have d3 : decide ((0 : Int) ≤ w) = true := decide_eq_true (by omega)
        have d7 : room (Int.toNat w) 8 = true := room_small (by omega) (by omega)
        have d4 : inB s 4 = true := inB_int hs.1 (by omega)
        have d5 : inB s (List.length [s0, s1, s2, s3]) = true := d4
        have d6 : inB 0 (List.length (List.replicate (Int.toNat w) (0 : Int))) = true := inB_int (by omega) (by simp; omega)
        have := m30_l0_eq (N := N) (s0 := s0) (s1 := s1) (s2 := s2) (s3 := s3) s hw g2 (by omega) h3 fs raw 0 N (frame0 w s0 s1 s2 s3 s) rfl rfl (by omega) pack_nil (layOK_clear h1 h2)
        rw [show ((0 : Nat) : Int) = 0 from rfl] at this
        simp only [cond_true, d1, d2, d3, d7, d4, d5, d6, cond_false, decide_true, Bool.and_self]
        unfold frame0 at this ⊢
        rw [this, Option.bind_some]
        cases packF s fs raw (wr (List.replicate w.toNat 0) 0 (rd 0 [s0, s1, s2, s3] s)) <;> rfl
      · have d1 : decide (((raw.length : Nat) : Int) ≠ ((fs.length : Nat) : Int)) = true := by simp; omega
        have d2 : decide (raw.length = fs.length) = false := by simp [h3]
        simp only [cond_true, d1, d2, cond_false]
theorem m32_eq (hN : 100 < N) (hf : ∀ f, f ∈ fs → I64 f.2.2.1) (s : Int) : m32 N w s0 s1 s2 s3 fs s raw = some (framesR w s0 s1 s2 s3 fs s raw) := by
  unfold m32 framesR
  rw [m28_eq hN hf, Option.bind_some]
  cases h1 : layOK w s0 s1 s2 s3 fs with
  | false => rfl
  | true =>
    have e : decide ((0 : Int) ≠ 0) = false := rfl
    simp only [cond_true, e, cond_false, m79_eq, Option.bind_some]
    cases h2 : within s 0 3 with
    | false => rfl
    | true =>
      have hs := within_iff.1 h2
      obtain ⟨g1, g2⟩ := layOK_f h1
      have hw := layOK_w h1
      by_cases h3 : raw.length = fs.length
      · have d1 : decide (((raw.length : Nat) : Int) ≠ ((fs.length : Nat) : Int)) = false := by simp [h3]
        have d2 : decide (raw.length = fs.length) = true := by simp [h3]
        have d3 : decide ((0 : Int) ≤ w) = true := decide_eq_true (by omega)
        have d7 : room (Int.toNat w) 8 = true := room_small (by omega) (by omega)
        have d4 : inB s 4 = true := inB_int hs.1 (by omega)
        have d5 : inB s (List.length [s0, s1, s2, s3]) = true := d4
        have d6 : inB 0 (List.length (List.replicate (Int.toNat w) (0 : Int))) = true := inB_int (by omega) (by simp; omega)
        have := m32_l0_eq (N := N) (s0 := s0) (s1 := s1) (s2 := s2) (s3 := s3) s hw g2 (by omega) h3 fs raw 0 N (frame0 w s0 s1 s2 s3 s) rfl rfl (by omega) pack_nil (layOK_clear h1 h2)
        rw [show ((0 : Nat) : Int) = 0 from rfl] at this
        simp only [cond_true, d1, d2, d3, d7, d4, d5, d6, cond_false, decide_true, Bool.and_self]
        unfold frame0 at this ⊢
        rw [this, Option.bind_some]
        cases packF s fs raw (wr (List.replicate w.toNat 0) 0 (rd 0 [s0, s1, s2, s3] s)) <;> rfl
      · have d1 : decide (((raw.length : Nat) : Int) ≠ ((fs.length : Nat) : Int)) = true := by simp; omega
        have d2 : decide (raw.length = fs.length) = false := by simp [h3]
        simp only [cond_true, d1, d2, cond_false]
theorem packF_len (s : Int) : ∀ (fs : List D2) (raw a q : List Int), packF s fs raw a = some q → q.length = a.length
  | [], raw, a, q, h => by
    simp only [packF, Option.some.injEq] at h
    rw [← h]
  | f :: fs, [], a, q, h => by
    simp only [packF, Option.some.injEq] at h
    rw [← h]
  | f :: fs, v :: vs, a, q, h => by
    simp only [packF] at h
    cases hi : inS f s <;> rw [hi] at h
    · cases hd : decide (v ≠ 0) <;> rw [hd] at h
      · exact packF_len s fs vs a q h
      · cases h
    · cases hv : canV f v <;> rw [hv] at h
      · cases h
      · have := packF_len s fs vs _ q h
        rw [this, putV, wr, List.length_set]
theorem framesR_len (s : Int) : (framesR w s0 s1 s2 s3 fs s raw).1.length ≤ 32 := by
  unfold framesR
  cases h1 : layOK w s0 s1 s2 s3 fs with
  | false => simp
  | true =>
    have hw := layOK_w h1
    cases within s 0 3 with
    | false => simp
    | true =>
      cases decide (raw.length = fs.length) with
      | false => simp
      | true =>
        simp only [cond_true]
        cases hp : packF s fs raw (frame0 w s0 s1 s2 s3 s) with
        | none => simp
        | some a =>
          have := packF_len _ _ _ _ _ hp
          simp only [frame0, wr, List.length_set, List.length_replicate] at this
          simp only
          omega
theorem m5_eq (hN : 1001 < N) (hf : ∀ f, f ∈ fs → I64 f.2.2.1) (s : Int) : m5 N w s0 s1 s2 s3 fs s raw = some true := by
  unfold m5
  by_cases c1 : 20 < fs.length
  · have e : decide ((20 : Int) < ((fs.length : Nat) : Int)) = true := by simp; omega
    simp only [e, cond_true, m16_eq (show 1000 < N by omega), Option.bind_some]
  · have e : decide ((20 : Int) < ((fs.length : Nat) : Int)) = false := by simp; omega
    by_cases c2 : 30 < raw.length
    · have e2 : decide ((30 : Int) < ((raw.length : Nat) : Int)) = true := by simp; omega
      simp only [e, e2, cond_true, cond_false, m16_eq (show 1000 < N by omega), Option.bind_some]
    · have e2 : decide ((30 : Int) < ((raw.length : Nat) : Int)) = false := by simp; omega
      have hroom : room raw.length 8 = true := room_small (by omega) (by omega)
      have hlen := framesR_len (w := w) (s0 := s0) (s1 := s1) (s2 := s2) (s3 := s3) (fs := fs) (raw := raw) s
      rw [e, e2, m31_eq (by omega)]
      simp only [cond_false, Option.bind_some, hroom, cond_true, List.nil_append, m30_eq (show 100 < N by omega) hf, m32_eq (show 100 < N by omega) hf, m29_eq (show (framesR w s0 s1 s2 s3 fs s raw).1.length < 4611686018427387904 by omega) (show (framesR w s0 s1 s2 s3 fs s raw).1.length < N by omega), decide_true, m16_eq (show 1000 < N by omega)]
end
theorem pure5 (x : pt (tysL m5_a)) (hx : wfP (tysL m5_a) x) : ∃ N, (m5_s N).f x = some true := by
  refine ⟨1002, ?_⟩
  show m5 1002 _ _ _ _ _ _ _ _ = _
  exact m5_eq (by omega) (fields_i64 hx.2.2.2.2.2.1) _
end Go.VM
