/- Part Q4 of a claim: a machine over the model on plain data, what it makes of the program, plain laws. -/
import Derived.Test.YtdelhhjhkjcpnaaQ3
set_option linter.unusedVariables false
set_option linter.unusedSimpArgs false
namespace Go.VM
/-- The bits of a field in a frame. -/
def HoldsB (a : List Int) (x : D2) (e : Nat) : Prop := ∃ n : Nat, a[x.1.toNat]? = some (n : Int) ∧ n < 4096 ∧ n &&& maskN x = e
theorem mask_dis {w s : Int} {x y : D2} (hx : fOK w x = true) (hy : fOK w y = true) (hix : inS x s = true) (hiy : inS y s = true) (hw : y.1 = x.1) (hm : meetS s y x = false) : maskN y &&& maskN x = 0 := by
  by_cases e : maskN y &&& maskN x = 0
  · exact e
  · exfalso
    obtain ⟨j, h1, h2⟩ := and_ne.1 e
    rw [mask_bit] at h1 h2
    obtain ⟨_, _, _, r3, r4⟩ := mask_lt hx
    obtain ⟨_, _, _, t3, t4⟩ := mask_lt hy
    simp only [Bool.and_eq_true, decide_eq_true_eq] at h1 h2
    simp only [meetS, overlap, hix, hiy, Bool.true_and, decide_eq_false_iff_not] at hm
    exact hm ⟨hw, by omega, by omega⟩
theorem holds_put {w s : Int} {gs : List D2} {a : List Int} {x y : D2} {v : Int} {e : Nat} (hI : PackI w s gs a) (hg : ∀ g, g ∈ gs → fOK w g = true) (hy : fOK w y = true) (hiy : inS y s = true) (hv : canV y v = true) (hc : gs.any (meetS s y) = false)
    (hx : x ∈ gs) (hix : inS x s = true) (h : HoldsB a x e) : HoldsB (putV a y v) x e := by
  obtain ⟨n, h1, h2, h3⟩ := h
  have hxo := hg x hx
  obtain ⟨x1, x2⟩ := fOK_word hxo
  obtain ⟨y1, y2⟩ := fOK_word hy
  by_cases hw : y.1 = x.1
  · obtain ⟨n', r1, r2, r3, r4, r5⟩ := pack_at hI hg hy hiy hc
    have : n' = n := by
      rw [hw, h1] at r1
      simp only [Option.some.injEq] at r1
      omega
    subst this
    have c1 := (can_bd hy hv).1
    have el := enc_lt hy c1
    have hor := nat_or_add r4 el (enc_dis c1 r5)
    have hlt : n' ||| (encV y v * 2 ^ y.2.1.toNat) < 4096 := by
      have := Nat.or_lt_two_pow (n := 12) (x := n') (y := encV y v * 2 ^ y.2.1.toNat) (by omega) (by omega)
      omega
    refine ⟨n' ||| (encV y v * 2 ^ y.2.1.toNat), ?_, hlt, ?_⟩
    · rw [putV, wr, r2, hw, List.getElem?_set]
      have := (List.getElem?_eq_some_iff.1 h1).1
      simp only [this, if_true]
      rw [hor]
      simp
    · have hm : meetS s y x = false := by
        cases hm : meetS s y x with
        | false => rfl
        | true =>
          have : gs.any (meetS s y) = true := List.any_eq_true.2 ⟨x, hx, hm⟩
          rw [hc] at this
          cases this
      have hd := mask_dis hxo hy hix hiy hw hm
      rw [Nat.and_or_distrib_right, h3, ← enc_and y c1, Nat.and_assoc, hd, Nat.and_zero, Nat.or_zero]
  · refine ⟨n, ?_, h2, h3⟩
    rw [putV, wr, List.getElem?_set]
    have : ¬ y.1.toNat = x.1.toNat := by omega
    simp [this, h1]
theorem holds_new {w s : Int} {gs : List D2} {a : List Int} {y : D2} {v : Int} (hI : PackI w s gs a) (hg : ∀ g, g ∈ gs → fOK w g = true) (hy : fOK w y = true) (hiy : inS y s = true) (hv : canV y v = true) (hc : gs.any (meetS s y) = false) : HoldsB (putV a y v) y (encV y v * 2 ^ y.2.1.toNat) := by
  obtain ⟨n', r1, r2, r3, r4, r5⟩ := pack_at hI hg hy hiy hc
  have c1 := (can_bd hy hv).1
  have el := enc_lt hy c1
  have hor := nat_or_add r4 el (enc_dis c1 r5)
  have hlt : n' ||| (encV y v * 2 ^ y.2.1.toNat) < 4096 := by
    have := Nat.or_lt_two_pow (n := 12) (x := n') (y := encV y v * 2 ^ y.2.1.toNat) (by omega) (by omega)
    omega
  refine ⟨n' ||| (encV y v * 2 ^ y.2.1.toNat), ?_, hlt, ?_⟩
  · rw [putV, wr, r2, List.getElem?_set]
    have := (List.getElem?_eq_some_iff.1 r1).1
    simp only [this, if_true]
    rw [hor]
    simp
  · rw [Nat.and_or_distrib_right, r5, enc_and y c1, Nat.zero_or]
theorem pack_keep {w s : Int} : ∀ (r gs : List D2) (vs a q : List Int) (x : D2) (e : Nat), packF s r vs a = some q → PackI w s gs a → (∀ g, g ∈ gs → fOK w g = true) → (∀ g, g ∈ r → fOK w g = true) → clear (meetS s) gs r = true → x ∈ gs → inS x s = true → HoldsB a x e → HoldsB q x e
  | [], gs, vs, a, q, x, e, h, hI, hg, hr, hc, hx, hi, hh => by
    simp only [packF, Option.some.injEq] at h
    rwa [← h]
  | y :: r, gs, [], a, q, x, e, h, hI, hg, hr, hc, hx, hi, hh => by
    simp only [packF, Option.some.injEq] at h
    rwa [← h]
  | y :: r, gs, v :: vs, a, q, x, e, h, hI, hg, hr, hc, hx, hi, hh => by
    simp only [packF] at h
    simp only [clear, Bool.and_eq_true, Bool.not_eq_true'] at hc
    have hy := hr y (by simp)
    have hg' : ∀ g, g ∈ gs ++ [y] → fOK w g = true := fun g hg0 => by
      rcases List.mem_append.1 hg0 with h | h
      · exact hg g h
      · rw [List.mem_singleton.1 h]; exact hy
    have ih := fun a h hI hh => pack_keep r (gs ++ [y]) vs a q x e h hI hg' (fun g hg => hr g (by simp [hg])) hc.2 (by simp [hx]) hi hh
    cases hiy : inS y s <;> rw [hiy] at h
    · cases hd : decide (v ≠ 0) <;> rw [hd] at h
      · exact ih a h (pack_skip hI) hh
      · cases h
    · cases hv : canV y v <;> rw [hv] at h
      · cases h
      · obtain ⟨n', r1, r2, r3, r4, r5⟩ := pack_at hI hg hy hiy hc.1
        exact ih _ h (pack_put hI hy hiy hv r2 r4 r5 r1).1 (holds_put hI hg hy hiy hv hc.1 hx hi hh)
/-- What a packed frame holds. -/
theorem pack_get {w s : Int} : ∀ (r gs : List D2) (vs a q : List Int) (j : Nat) (x : D2) (v : Int), packF s r vs a = some q → PackI w s gs a → (∀ g, g ∈ gs → fOK w g = true) → (∀ g, g ∈ r → fOK w g = true) → clear (meetS s) gs r = true → r[j]? = some x → vs[j]? = some v →
    inS x s = true → canV x v = true ∧ HoldsB q x (encV x v * 2 ^ x.2.1.toNat)
  | [], gs, vs, a, q, j, x, v, h, hI, hg, hr, hc, hx, hv, hi => by simp at hx
  | y :: r, gs, [], a, q, j, x, v, h, hI, hg, hr, hc, hx, hv, hi => by simp at hv
  | y :: r, gs, u :: vs, a, q, j, x, v, h, hI, hg, hr, hc, hx, hv, hi => by
    simp only [packF] at h
    simp only [clear, Bool.and_eq_true, Bool.not_eq_true'] at hc
    have hy := hr y (by simp)
    have hg' : ∀ g, g ∈ gs ++ [y] → fOK w g = true := fun g hg0 => by
      rcases List.mem_append.1 hg0 with h | h
      · exact hg g h
      · rw [List.mem_singleton.1 h]; exact hy
    have hr' : ∀ g, g ∈ r → fOK w g = true := fun g hg => hr g (by simp [hg])
    have ih := fun a j h hI hx hv => pack_get r (gs ++ [y]) vs a q j x v h hI hg' hr' hc.2 hx hv hi
    cases hiy : inS y s <;> rw [hiy] at h
    · cases hd : decide (u ≠ 0) <;> rw [hd] at h
      · cases j with
        | zero =>
          simp at hx
          rw [hx, hi] at hiy
          cases hiy
        | succ j => exact ih a j h (pack_skip hI) (by simpa using hx) (by simpa using hv)
      · cases h
    · cases hu : canV y u <;> rw [hu] at h
      · cases h
      · obtain ⟨n', r1, r2, r3, r4, r5⟩ := pack_at hI hg hy hiy hc.1
        have hI' := (pack_put hI hy hiy hu r2 r4 r5 r1).1
        cases j with
        | zero =>
          simp at hx hv
          subst hx hv
          exact ⟨hu, pack_keep r (gs ++ [y]) vs _ q y _ h hI' hg' hr' hc.2 (by simp) hiy (holds_new hI hg hy hiy hu hc.1)⟩
        | succ j => exact ih _ j h hI' (by simpa using hx) (by simpa using hv)
theorem pack_all {w s : Int} : ∀ (r gs : List D2) (vs a q : List Int), packF s r vs a = some q → PackI w s gs a → (∀ g, g ∈ gs → fOK w g = true) → (∀ g, g ∈ r → fOK w g = true) → clear (meetS s) gs r = true → (∃ gs', PackI w s gs' q) ∧ q[0]? = a[0]?
  | [], gs, vs, a, q, h, hI, hg, hr, hc => by
    simp only [packF, Option.some.injEq] at h
    subst h
    exact ⟨⟨gs, hI⟩, rfl⟩
  | y :: r, gs, [], a, q, h, hI, hg, hr, hc => by
    simp only [packF, Option.some.injEq] at h
    subst h
    exact ⟨⟨gs, hI⟩, rfl⟩
  | y :: r, gs, u :: vs, a, q, h, hI, hg, hr, hc => by
    simp only [packF] at h
    simp only [clear, Bool.and_eq_true, Bool.not_eq_true'] at hc
    have hy := hr y (by simp)
    have hg' : ∀ g, g ∈ gs ++ [y] → fOK w g = true := fun g hg0 => by
      rcases List.mem_append.1 hg0 with h | h
      · exact hg g h
      · rw [List.mem_singleton.1 h]; exact hy
    have ih := fun a h hI => pack_all r (gs ++ [y]) vs a q h hI hg' (fun g hg => hr g (by simp [hg])) hc.2
    cases hiy : inS y s <;> rw [hiy] at h
    · cases hd : decide (u ≠ 0) <;> rw [hd] at h
      · exact ih a h (pack_skip hI)
      · cases h
    · cases hu : canV y u <;> rw [hu] at h
      · cases h
      · obtain ⟨n', r1, r2, r3, r4, r5⟩ := pack_at hI hg hy hiy hc.1
        obtain ⟨k1, k2⟩ := ih _ h (pack_put hI hy hiy hu r2 r4 r5 r1).1
        refine ⟨k1, k2.trans ?_⟩
        have := (fOK_word hy).1
        rw [putV, wr, List.getElem?_set]
        have : ¬ y.1.toNat = 0 := by omega
        simp [this]
/-- Packed, and read again. -/
theorem raw_enc {f : D2} {w : Int} (h : fOK w f = true) {v : Int} (hv : canV f v = true) {n : Nat} (hn : n &&& maskN f = encV f v * 2 ^ f.2.1.toNat) : rawI f n = v := by
  obtain ⟨h1, h2, h3, h4, h5⟩ := mask_lt h
  obtain ⟨c1, c2, c3, c4, c5⟩ := can_bd h hv
  have e := pow_pred h2
  have hu : rawU f n = encV f v := by
    rw [← rawU_mask, hn, Nat.mul_div_cancel _ (Nat.two_pow_pos _)]
  unfold rawI
  rw [hu]
  unfold canV loV hiV at hv
  rw [within_iff] at hv
  cases hs : f.2.2.2.1 with
  | false =>
    simp only [hs, cond_false] at hv
    simp only [Bool.false_and, cond_false]
    exact c5 (by omega)
  | true =>
    simp only [hs, cond_true] at hv
    by_cases hneg : v < 0
    · have := c4 hneg
      have d : decide (2 ^ (f.2.2.1.toNat - 1) ≤ encV f v) = true := decide_eq_true (by omega)
      simp only [d, Bool.and_self, cond_true]
      omega
    · have := c5 (by omega)
      have d : decide (2 ^ (f.2.2.1.toNat - 1) ≤ encV f v) = false := decide_eq_false (by omega)
      simp only [d, Bool.and_false, cond_false]
      exact this
end Go.VM

set_option linter.unusedVariables false
set_option linter.unusedSimpArgs false
namespace Go.VM
section
variable {N : Nat} {w s0 s1 s2 s3 b : Int} {fs : List D2} {raw : List Int}
theorem frame_sub {s : Int} (h1 : layOK w s0 s1 s2 s3 fs = true) (h2 : within s 0 3 = true) {q : List Int} (hq : packF s fs raw (frame0 w s0 s1 s2 s3 s) = some q) : subf w s0 s1 s2 s3 q = s ∧ q.length = w.toNat := by
  have hs := within_iff.1 h2
  obtain ⟨g1, g2⟩ := layOK_f h1
  have hw := layOK_w h1
  obtain ⟨⟨gs', hI⟩, h0⟩ := pack_all fs [] raw _ q hq pack_nil (by simp) g2 (layOK_clear h1 h2)
  have hsync : syncOK s0 s1 s2 s3 = true := by
    simp only [layOK, Bool.and_eq_true] at h1
    exact h1.2.2.1
  simp only [syncOK, syncE, Bool.and_eq_true, within_iff, List.any_nil, List.any_cons, Bool.or_false, Bool.not_eq_true', Bool.or_eq_false_iff, decide_eq_false_iff_not] at hsync
  obtain ⟨⟨y0, _⟩, ⟨y1, n1⟩, ⟨y2, n2, n3⟩, ⟨y3, n4, n5, n6⟩⟩ := hsync
  have hf0 : (frame0 w s0 s1 s2 s3 s)[0]? = some (rd 0 [s0, s1, s2, s3] s) := by
    simp only [frame0, wr, List.getElem?_set]
    simp
    omega
  rw [hf0] at h0
  have hr0 : rd 0 q 0 = rd 0 [s0, s1, s2, s3] s := by
    show q.getD 0 0 = _
    simp [List.getD, h0]
  have hcase : s = 0 ∨ s = 1 ∨ s = 2 ∨ s = 3 := by omega
  have hb0 : 0 ≤ rd 0 [s0, s1, s2, s3] s ∧ rd 0 [s0, s1, s2, s3] s ≤ 4095 := by
    rcases hcase with rfl | rfl | rfl | rfl <;> simp [rd] <;> omega
  refine ⟨?_, hI.1⟩
  have hall : q.all (fun x => within x 0 4095) = true := by
    rw [List.all_eq_true]
    intro y hy
    obtain ⟨j, hj, hjy⟩ := List.mem_iff_getElem.1 hy
    have hj' : q[j]? = some y := by rw [List.getElem?_eq_getElem hj, hjy]
    rw [within_iff]
    by_cases e : j = 0
    · subst e
      rw [h0] at hj'
      simp only [Option.some.injEq] at hj'
      rw [← hj']
      exact hb0
    · obtain ⟨n, r1, r2, _⟩ := hI.2 j (by omega) (by rw [← hI.1]; exact hj)
      rw [hj'] at r1
      simp only [Option.some.injEq] at r1
      omega
  unfold subf
  have e1 : decide ((q.length : Int) = w) = true := decide_eq_true (by rw [hI.1]; omega)
  rw [e1, hall, hr0]
  simp only [Bool.and_self, cond_true, place]
  rcases hcase with rfl | rfl | rfl | rfl
  · simp [rd, List.findIdx?_cons]
  · simp [rd, List.findIdx?_cons, n1]
  · simp [rd, List.findIdx?_cons, n2, n3]
  · simp [rd, List.findIdx?_cons, n4, n5, n6]
theorem m6_l0_eq (hN : 300 < N) (hI : ∀ f, f ∈ fs → I64 f.2.2.1) {s : Int} (h1 : layOK w s0 s1 s2 s3 fs = true) (h2 : within s 0 3 = true) (hl : raw.length = fs.length) {q : List Int} (hq : packF s fs raw (frame0 w s0 s1 s2 s3 s) = some q) : ∀ (r : List D2) (vs : List Int) (i k : Nat), fs.drop i = r → raw.drop i = vs → r.length < k →
    m6_l0 N k s raw w s0 s1 s2 s3 fs w s0 s1 s2 s3 fs q (i : Int) = some (.inr ())
  | [], vs, i, k, h, h', hk => by
    obtain ⟨k, rfl⟩ : ∃ q, k = q + 1 := ⟨k - 1, by simp at hk; omega⟩
    simp only [m6_l0, ge_drop h, cond_false]
  | x :: r, vs, i, k, h, h', hk => by
    obtain ⟨k, rfl⟩ : ∃ q, k = q + 1 := ⟨k - 1, by simp at hk; omega⟩
    obtain ⟨g1, g2⟩ := layOK_f h1
    have hlt := drop_lt h
    cases vs with
    | nil =>
      have := congrArg List.length h'
      simp at this
      omega
    | cons v vs =>
      have hx := g2 x (List.mem_of_getElem? (drop_get h))
      have hev := fOK_every hx
      have hs := within_iff.1 h2
      have hw := layOK_w h1
      obtain ⟨hsub, hqlen⟩ := frame_sub h1 h2 hq
      have ih := m6_l0_eq hN hI h1 h2 hl hq r vs (i + 1) k (succ_drop h) (succ_drop h') (by simp at hk; omega)
      have hroom : room q.length 8 = true := room_small (by omega) (by omega)
      have e3 : decide (x.2.2.2.2.2.2.2.1 ≠ (0 : Int)) = true := decide_eq_true (by omega)
      have e4 : decide (Int.tmod s x.2.2.2.2.2.2.2.1 ≠ x.2.2.2.2.2.2.2.2) = !(inS x s) := by
        unfold inS
        cases hd : decide (Int.tmod s x.2.2.2.2.2.2.2.1 = x.2.2.2.2.2.2.2.2) <;> simp_all
      have hwi : within (i : Int) 0 ((fs.length : Int) - 1) = true := within_iff.2 (by omega)
      have hread : readR w s0 s1 s2 s3 fs [q] (i : Int) = (bif inS x s then [((0 : Int), valI x (rd 0 q x.1).toNat)] else [], 0) := by
        unfold readR
        have d : decide ([q].length ≤ 200) = true := rfl
        have d2 : decide ((0 : Int) ≤ s) = true := decide_eq_true hs.1
        simp only [h1, d, hwi, cond_true, rd_drop h, samples, smp, hsub, d2, Bool.true_and]
        cases inS x s <;> rfl
      simp only [m6_l0, lt_drop h, inB_drop h, inB_drop h', rd_drop h, rd_drop h', wrap_drop h (show fs.length < 4611686018427387904 by omega), cond_true, List.nil_append, hroom, m18_eq hN hI, Option.bind_some, hread, e3, e4]
      have z : decide ((0 : Int) ≠ 0) = false := rfl
      cases hi : inS x s with
      | false =>
        have z2 : decide ((((([] : List D6).length : Nat) : Int)) ≠ 0) = false := rfl
        simp only [z, cond_false, Bool.not_false, cond_true, z2]
        exact ih
      | true =>
        obtain ⟨hcan, n, r1, r2, r3⟩ := pack_get fs [] raw _ q i x v hq pack_nil (by simp) g2 (layOK_clear h1 h2) (drop_get h) (drop_get h') hi
        have hrd : rd 0 q x.1 = (n : Int) := by simp [rd, List.getD, r1]
        have hraw := raw_enc hx hcan r3
        have hval := val_wrap hx n
        rw [hraw] at hval
        have z3 : decide (((([((0 : Int), valI x (rd 0 q x.1).toNat)].length : Nat) : Int)) ≠ 1) = false := rfl
        have z4 : inB 0 [((0 : Int), valI x (rd 0 q x.1).toNat)].length = true := rfl
        have z5 : rd z6 [((0 : Int), valI x (rd 0 q x.1).toNat)] 0 = ((0 : Int), valI x (rd 0 q x.1).toNat) := rfl
        have z6' : (rd 0 q x.1).toNat = n := by rw [hrd]; rfl
        rw [z6'] at z3 z4 z5
        simp only [z, z6', cond_false, Bool.not_true, cond_true, z3, z4, z5, hval, decide_true, Bool.and_self]
        exact ih
theorem m6_eq (hN : 1001 < N) (hf : ∀ f, f ∈ fs → I64 f.2.2.1) (s : Int) : m6 N w s0 s1 s2 s3 fs s raw = some true := by
  unfold m6
  by_cases c1 : 20 < fs.length
  · have e : decide ((20 : Int) < ((fs.length : Nat) : Int)) = true := by simp; omega
    simp only [e, cond_true, m16_eq (show 1000 < N by omega), Option.bind_some]
  · have e : decide ((20 : Int) < ((fs.length : Nat) : Int)) = false := by simp; omega
    by_cases c2 : 30 < raw.length
    · have e2 : decide ((30 : Int) < ((raw.length : Nat) : Int)) = true := by simp; omega
      simp only [e, e2, cond_true, cond_false, m16_eq (show 1000 < N by omega), Option.bind_some]
    · have e2 : decide ((30 : Int) < ((raw.length : Nat) : Int)) = false := by simp; omega
      have hroom : room raw.length 8 = true := room_small (by omega) (by omega)
      rw [e, e2, m28_eq (by omega) hf]
      simp only [cond_false, Option.bind_some]
      cases h1 : layOK w s0 s1 s2 s3 fs with
      | false =>
        have z : decide ((120 : Int) ≠ 0) = true := rfl
        simp only [cond_false, z, cond_true, m16_eq (show 1000 < N by omega), Option.bind_some]
      | true =>
        have z : decide ((0 : Int) ≠ 0) = false := rfl
        have z1 : decide ((1 : Int) ≠ 0) = true := rfl
        rw [cond_true, z, cond_false, m31_eq (by omega)]
        simp only [Option.bind_some, List.nil_append, hroom, cond_true, m30_eq (show 100 < N by omega) hf]
        unfold framesR
        rw [h1]
        cases h2 : within s 0 3 with
        | false => simp only [cond_true, cond_false, z1, m16_eq (show 1000 < N by omega), Option.bind_some]
        | true =>
          by_cases h3 : raw.length = fs.length
          · have d2 : decide (raw.length = fs.length) = true := by simp [h3]
            simp only [d2, cond_true]
            cases hq : packF s fs raw (frame0 w s0 s1 s2 s3 s) with
            | none => simp only [z1, cond_true, m16_eq (show 1000 < N by omega), Option.bind_some]
            | some q =>
              obtain ⟨hsub, hqlen⟩ := frame_sub h1 h2 hq
              have hw := layOK_w h1
              have hs := within_iff.1 h2
              have hroomq : room q.length 8 = true := room_small (by omega) (by omega)
              have hgood : goodR w s0 s1 s2 s3 fs [q] = ([0], 0) := by
                unfold goodR
                have d : decide ([q].length ≤ 200) = true := rfl
                have d2 : decide ((0 : Int) ≤ s) = true := decide_eq_true hs.1
                simp only [h1, d, cond_true, List.map_cons, List.map_nil, idxs, hsub, d2]
                rfl
              have d1 : decide (((raw.length : Nat) : Int) ≠ ((fs.length : Nat) : Int)) = false := by simp [h3]
              have hloop := m6_l0_eq (N := N) (by omega) hf h1 h2 h3 hq fs raw 0 N rfl rfl (by omega)
              rw [show ((0 : Nat) : Int) = 0 from rfl] at hloop
              simp only [z, cond_false, hroomq, cond_true, m23_eq (show 300 < N by omega) hf, hgood, Option.bind_some, m29_eq (show [(0 : Int)].length < 4611686018427387904 by decide) (show [(0 : Int)].length < N by simp; omega), decide_true, d1, hloop, m16_eq (show 1000 < N by omega)]
          · have d2 : decide (raw.length = fs.length) = false := by simp [h3]
            simp only [d2, cond_true, cond_false, z1, m16_eq (show 1000 < N by omega), Option.bind_some]
end
theorem pure6 (x : pt (tysL m6_a)) (hx : wfP (tysL m6_a) x) : ∃ N, (m6_s N).f x = some true := by
  refine ⟨1002, ?_⟩
  show m6 1002 _ _ _ _ _ _ _ _ = _
  exact m6_eq (by omega) (fields_i64 hx.2.2.2.2.2.1) _
end Go.VM
