/- Part W2 of a claim: a machine over the model on plain data, what it makes of the program, plain laws. -/
import Derived.RangeFuncSeq
import Derived.OrdersIn
import Derived.Test.YtdelhhjhkjcpnaaW1
/-
Calls: how a call sees what it is handed.
-/
set_option linter.unusedVariables false
set_option linter.unusedSimpArgs false
namespace Go.VM
open Go.RowKit
section
variable {tab : Nat → Option TI} {P : Program} {c : Ctx} {key : Nat} {fr : List (Nat × SV)} {M : List (Nat × Atom)} {K : Res → Prop} {o : Oper}

theorem LRep.mono {B B' : Nat → Prop} {W : World} (hB : ∀ b, B b → B' b) {x : Leaf} {v : Value} (h : LRep B W x v) : LRep B' W x v := by
  cases x with
  | int _ _ => exact h
  | bool _ => exact h
  | sl t l =>
    obtain ⟨A, n, q, e, hs⟩ := h
    exact ⟨A, n, q, e, hs.mono hB (fun _ _ => rfl) fun x vs hr => hr.mono hB fun _ _ => rfl⟩

/-- How a value may be seen by a call: all that lies below the heap's size, or what stays. -/
def Mode (c : Ctx) (E : Env) (M : List (Nat × Atom)) (W : World) (U : Nat → Prop) (d : Nat) (s : SV) : Prop :=
  (∀ b, b < W.heap.size → ¬ U b) ∨ (s.still M d = true ∧ ∀ b, still c E b → ¬ U b)
def ModeL (c : Ctx) (E : Env) (M : List (Nat × Atom)) (W : World) (U : Nat → Prop) (d : Nat) (l : List SV) : Prop :=
  (∀ b, b < W.heap.size → ¬ U b) ∨ (stillL M d l = true ∧ ∀ b, still c E b → ¬ U b)

theorem ModeL.cons {E : Env} {W : World} {U : Nat → Prop} {d : Nat} {s : SV} {r : List SV} (h : ModeL c E M W U d (s :: r)) : ∃ d', Mode c E M W U d' s ∧ ModeL c E M W U d' r := by
  rcases h with h | ⟨h, hU⟩
  · exact ⟨0, .inl h, .inl h⟩
  · cases d with
    | zero => simp [stillL] at h
    | succ d =>
      simp only [stillL] at h
      cases hs : s.still M d with
      | false => simp [hs] at h
      | true =>
        simp only [hs] at h
        exact ⟨d, .inr ⟨hs, hU⟩, .inr ⟨h, hU⟩⟩

theorem still_sl {E : Env} {p : Nat → Prop} {W : World} (hM : SatM c E p (fun k => getM k M) W) {j off n q : Nat} {cs : List SV} {ty : Nat} {b : Bool} (hj : getM j M = some (.box cs ty b)) {s : SV} (hsv : s = .sl j off n q ∨ s = .ptr j off) {d : Nat} (hs : s.still M d = true) :
    b = false ∧ still c E (E.blk j) ∧ ∃ d', stillL M d' cs = true := by
  cases d with
  | zero => simp [SV.still] at hs
  | succ d =>
    have : b = false ∧ stillL M d cs = true := by
      rcases hsv with rfl | rfl
      · cases b <;> simp_all [SV.still]
      · cases b <;> simp_all [SV.still]
    obtain ⟨rfl, h⟩ := this
    exact ⟨rfl, .inr ((hM.at_ j _ hj).2.2.2.1.2 rfl), d, h⟩
theorem ownK_mem {j : Nat} : ∀ {ss : List SV}, j ∈ ownK ss → .own j ∈ ss
  | [], h => by simp [ownK] at h
  | s :: r, h => by
    cases s with
    | own i =>
      simp only [ownK, List.mem_cons] at h
      rcases h with rfl | h
      · simp
      · simp [ownK_mem h]
    | _ => simp only [ownK] at h; simp [ownK_mem h]
theorem stillL_own : ∀ (cs : List SV) (d : Nat) (k : Nat), stillL M d cs = true → .own k ∈ cs → ∃ t l, getM k M = some (.ro t l)
  | [], d, k, _, h => by simp at h
  | s :: r, 0, k, h, _ => by simp [stillL] at h
  | s :: r, d + 1, k, h, hk => by
    simp only [stillL] at h
    cases hs : s.still M d with
    | false => simp [hs] at h
    | true =>
      simp only [hs] at h
      simp only [List.mem_cons] at hk
      rcases hk with rfl | hk
      · cases d with
        | zero => simp [SV.still] at hs
        | succ d =>
          simp only [SV.still] at hs
          split at hs
          · rename_i t l hg
            exact ⟨t, l, hg⟩
          · cases hs
      · exact stillL_own r d k h hk

theorem leafOf_rep {E : Env} {p : Nat → Prop} {W : World} (hM : SatM c E p (fun k => getM k M) W) {t : Option Ty} {s : SV} {x : Leaf} (h : leafOf M t s = some x) {U : Nat → Prop} {d : Nat} (hm : Mode c E M W U d s) : LRep (fun b => b < W.heap.size ∧ ¬ U b) W x (den E s) := by
  have nosl : ∀ (h : leaf0 M true t s = some x), LRep (fun b => b < W.heap.size ∧ ¬ U b) W x (den E s) := by
    intro h
    have := leaf0_rep (ks := match s with | .own j => [j] | _ => []) hM h (fun _ j e => by subst e; simp) (fun j e => rfl)
    refine this.mono fun b hb => ?_
    rcases hb with hb | ⟨k, ty, a, l, ad, hk, hg, hA, hab⟩
    · refine ⟨still_lt hM hb, ?_⟩
      rcases hm with hm | ⟨_, hm⟩
      · exact hm b (still_lt hM hb)
      · exact hm b hb
    · have hlt : b < W.heap.size := ((hM.at_ k _ hg).2.2.2.2 b (by simp [footOf, hA, hab])).1
      refine ⟨hlt, ?_⟩
      rcases hm with hm | ⟨hs, _⟩
      · exact hm b hlt
      · cases s with
        | own j =>
          simp only [List.mem_singleton] at hk
          subst hk
          cases d with
          | zero => simp [SV.still] at hs
          | succ d => simp [SV.still, hg] at hs
        | _ => simp at hk
  cases s with
  | sl j off n q =>
    · simp only [leafOf] at h
      split at h
      · rename_i a cs ty b hnq hj
        have hq := Nat.le_of_ble_eq_true hnq
        split at h
        · rename_i l hl
          injection h with h
          subst h
          obtain ⟨_, hcs, h3, _, h5⟩ := hM.at_ j _ hj
          simp only [AtomAt] at h3
          obtain ⟨r1, r2, r3⟩ := rowOf_rep (ks := ownK cs) hM _ _ _ hl (fun _ i hi => mem_ownK (by rw [dropN_eq] at hi; exact List.mem_of_mem_drop hi)) (fun _ _ => rfl)
          · refine ⟨some ⟨E.blk j, off, none⟩, n, q, rfl, SlT.of_cells (r3.mono (fun b hb => ?_) fun _ _ => rfl) r1 hq (by simp) (fun a ha _ => ?_) fun a ha i u hu => ?_⟩
            · have : b < W.heap.size := by
                rcases hb with hb | ⟨k, ty', a', l', ad, hk, hg, hA, hab⟩
                · exact still_lt hM hb
                · exact ((hM.at_ k _ hg).2.2.2.2 b (by simp [footOf, hA, hab])).1
              refine ⟨this, ?_⟩
              rcases hm with hm | ⟨hs, hm⟩
              · exact hm b this
              · obtain ⟨_, _, d', hd⟩ := still_sl hM hj (.inl rfl) hs
                rcases hb with hb | ⟨k, ty', a', l', ad, hk, hg, hA, hab⟩
                · exact hm b hb
                · obtain ⟨t2, l2, hro⟩ := stillL_own cs d' k hd (ownK_mem hk)
                  have hg : getM k M = some (.own ty' a' l') := hg
                  rw [hro] at hg
                  cases hg
            · injection ha with ha
              subst ha
              have := (h5 (E.blk j) (by simp [footOf])).1
              refine ⟨this, ?_⟩
              rcases hm with hm | ⟨hs, hm⟩
              · exact hm _ this
              · exact hm _ (still_sl hM hj (.inl rfl) hs).2.1
            · injection ha with ha
              subst ha
              have hlt : i < n * a.size := by
                have := (List.getElem?_eq_some_iff.1 hu).1
                simp only [List.length_take] at this
                omega
              rw [List.getElem?_take_of_lt hlt, dropN_eq, denL_drop, List.getElem?_drop] at hu
              rw [Addr.add_lit, cell_of_heap h3]
              exact hu
        · simp at h
      · simp at h
  | _ => exact nosl (by simpa [leafOf] using h)
end
end Go.VM

/-
Calls: what a call is handed.
-/
set_option linter.unusedVariables false
set_option linter.unusedSimpArgs false
namespace Go.VM
open Go.RowKit
section
variable {tab : Nat → Option TI} {P : Program} {c : Ctx} {key : Nat} {fr : List (Nat × SV)} {M : List (Nat × Atom)} {K : Res → Prop} {o : Oper}

/-- The context of a call that begins. -/
def c0 (W : World) (U : Nat → Prop) : Ctx := { w0 := W, S := [], U, nt := 0, rd := none, sz := 0 }

/-- What a filled shape says of values, whatever the environment, if it knows the slices. -/
def ViewA (W : World) (U : Nat → Prop) (n m : Nat) (M' : List (Nat × Atom)) (E' : Env) : Prop :=
  ∀ k A, (k, A) ∈ M' → (n ≤ k ∧ k < m) ∧ (∀ E, footOf E k A = []) ∧ A.ok (fun k => n ≤ k ∧ k < m) ∧ AtomAt (c0 W U) E' k W A
def View (W : World) (U : Nat → Prop) (n m : Nat) (s : SV) (M' : List (Nat × Atom)) (v : Value) (slv : Nat → Option Addr × Nat × Nat) : Prop :=
  n ≤ m ∧ s.ok (fun k => n ≤ k ∧ k < m) ∧ ∀ E' : Env, (∀ k, n ≤ k → k < m → E'.slv k = slv k) → den E' s = v ∧ ViewA W U n m M' E'
def ViewL (W : World) (U : Nat → Prop) (n m : Nat) (ss : List SV) (M' : List (Nat × Atom)) (vs : List Value) (slv : Nat → Option Addr × Nat × Nat) : Prop :=
  n ≤ m ∧ okL (fun k => n ≤ k ∧ k < m) ss ∧ ∀ E' : Env, (∀ k, n ≤ k → k < m → E'.slv k = slv k) → denL E' ss = vs ∧ ViewA W U n m M' E'

theorem ViewA.mono {W : World} {U : Nat → Prop} {n m n' m' : Nat} {M' : List (Nat × Atom)} {E' : Env} (h : ViewA W U n m M' E') (h1 : n' ≤ n) (h2 : m ≤ m') : ViewA W U n' m' M' E' := fun k A hk => by
  obtain ⟨q1, q2, q3, q4⟩ := h k A hk
  exact ⟨⟨by omega, by omega⟩, q2, A.ok_mono (fun k hk => ⟨by omega, by omega⟩) q3, q4⟩

theorem viewL_nil (W : World) (U : Nat → Prop) (n : Nat) (slv : Nat → Option Addr × Nat × Nat) : ViewL W U n n [] [] [] slv :=
  ⟨Nat.le_refl _, trivial, fun E' _ => ⟨rfl, fun k A h => by simp at h⟩⟩

theorem viewL_cons {W : World} {U : Nat → Prop} {n m r : Nat} {s : SV} {ss : List SV} {M1 M2 : List (Nat × Atom)} {v : Value} {vs : List Value} {s1 s2 : Nat → Option Addr × Nat × Nat} (h1 : View W U n m s M1 v s1) (h2 : ViewL W U m r ss M2 vs s2) :
    ViewL W U n r (s :: ss) (M1 ++ M2) (v :: vs) (fun k => if k < m then s1 k else s2 k) := by
  obtain ⟨a1, a2, a3⟩ := h1
  obtain ⟨b1, b2, b3⟩ := h2
  refine ⟨by omega, ⟨ok_mono (fun k hk => ⟨by omega, by omega⟩) s a2, okL_mono (fun k hk => ⟨by omega, by omega⟩) ss b2⟩, fun E' hE => ?_⟩
  obtain ⟨c1, c2⟩ := a3 E' fun k h1 h2 => by rw [hE k h1 (by omega)]; simp [h2]
  obtain ⟨d1, d2⟩ := b3 E' fun k h1 h2 => by rw [hE k (by omega) h2]; simp [Nat.not_lt.2 h1]
  refine ⟨by simp [denL, c1, d1], fun k A hk => ?_⟩
  rw [List.mem_append] at hk
  rcases hk with hk | hk
  · exact (c2.mono (Nat.le_refl _) b1) k A hk
  · exact (d2.mono a1 (Nat.le_refl _)) k A hk

/-- A slice. -/
theorem view_sl {W : World} {U : Nat → Prop} {n : Nat} {a : Ty} {l : List a.den} {v : Value} (h : LRep (fun b => b < W.heap.size ∧ ¬ U b) W (.sl a l) v) : ∃ slv, View W U n (n + 1) (.own n) [(n, .ro a l)] v slv := by
  obtain ⟨A, m, q, rfl, h⟩ := h
  refine ⟨fun _ => (A, m, q), Nat.le_succ _, ⟨Nat.le_refl _, Nat.lt_succ_self _⟩, fun E' hE => ?_⟩
  have e := hE n (Nat.le_refl _) (Nat.lt_succ_self _)
  refine ⟨by simp [den, e], fun k A' hk => ?_⟩
  simp only [List.mem_singleton, Prod.mk.injEq] at hk
  obtain ⟨rfl, rfl⟩ := hk
  refine ⟨⟨Nat.le_refl _, Nat.lt_succ_self _⟩, fun _ => rfl, trivial, ?_⟩
  simp only [AtomAt, e]
  have hB : ∀ b, b < W.heap.size ∧ ¬ U b → still (c0 W U) E' b := fun b hb => .inl ⟨hb.1, by simp [c0], hb.2⟩
  exact h.mono hB (fun _ _ => rfl) fun x vs hr => hr.mono hB fun _ _ => rfl

/-- A pointer. -/
theorem view_ptr {W : World} {U : Nat → Prop} {n m : Nat} {ss : List SV} {M' : List (Nat × Atom)} {vs : List Value} {slv : Nat → Option Addr × Nat × Nat} (h : ViewL W U (n + 1) m ss M' vs slv) {a : Addr} (ha : a.block < W.heap.size ∧ ¬ U a.block) (hc : ∀ i v, vs[i]? = some v → W.cell? (a.add i) = some v) (off : Nat) :
    ∃ slv', View W U n m (.eptr n 0 0 off) ((n, .rop ss) :: M') (.pointer (some (a.add off))) slv' := by
  obtain ⟨b1, b2, b3⟩ := h
  refine ⟨fun k => if k = n then (some a, 0, 0) else slv k, by omega, ⟨Nat.le_refl _, by omega⟩, fun E' hE => ?_⟩
  have e : E'.slv n = (some a, 0, 0) := by rw [hE n (Nat.le_refl _) (by omega)]; simp
  obtain ⟨d1, d2⟩ := b3 E' fun k h1 h2 => by
    rw [hE k (by omega) h2]
    exact if_neg (by omega)
  refine ⟨by simp [den, e], fun k A hk => ?_⟩
  simp only [List.mem_cons, Prod.mk.injEq] at hk
  rcases hk with ⟨rfl, rfl⟩ | hk
  · refine ⟨⟨Nat.le_refl _, by omega⟩, fun _ => rfl, okL_mono (fun k hk => ⟨by omega, by omega⟩) ss b2, a, by rw [e], .inl ⟨ha.1, by simp [c0], ha.2⟩, fun i s hs => hc i _ ?_⟩
    rw [← d1, denL_eq, List.getElem?_map, hs]
    rfl
  · exact (d2.mono (Nat.le_succ _) (Nat.le_refl _)) k A hk

theorem view_leaf {E : Env} {p : Nat → Prop} {W : World} (hM : SatM c E p (fun k => getM k M) W) {U : Nat → Prop} {t : Option Ty} {s : SV} {x : Leaf} (h : leafOf M t s = some x) {d : Nat} (hm : Mode c E M W U d s) (n : Nat) (rest : List Leaf) :
    ∃ s' M' m slv, (match x with | .int k z => (Sk.int k) | .bool b => .bool | .sl a l => .ro a).fill n (x :: rest) = some (s', M', m, rest) ∧ View W U n m s' M' (den E s) slv := by
  have hr := leafOf_rep hM h hm
  cases x with
  | int k z =>
    refine ⟨.v (.int k z), [], n, fun _ => (none, 0, 0), by simp [Sk.fill], Nat.le_refl _, trivial, fun E' _ => ⟨?_, fun k A h => by simp at h⟩⟩
    simp only [den]
    exact (show den E s = _ from hr).symm
  | bool b =>
    refine ⟨.v (.bool b), [], n, fun _ => (none, 0, 0), by simp [Sk.fill], Nat.le_refl _, trivial, fun E' _ => ⟨?_, fun k A h => by simp at h⟩⟩
    simp only [den]
    exact (show den E s = _ from hr).symm
  | sl a l =>
    obtain ⟨slv, hv⟩ := view_sl (n := n) hr
    refine ⟨.own n, [(n, .ro a l)], n + 1, slv, ?_, hv⟩
    have : (Leaf.sl a l).as (.slice a) = some l := by
      simp only [Leaf.as]
      cases hd : decEq a a with
      | isTrue e => rfl
      | isFalse e => exact absurd rfl e
    simp [Sk.fill, this]

mutual
theorem view_of {E : Env} {p : Nat → Prop} {W : World} (hM : SatM c E p (fun k => getM k M) W) {U : Nat → Prop} : ∀ (d : Nat) (t : Option Ty) (s : SV) (sk : Sk) (ls : List Leaf), skOf tab M d t s = some (sk, ls) → (∃ dm, Mode c E M W U dm s) → ∀ (n : Nat) (rest : List Leaf),
    ∃ s' M' m slv, sk.fill n (ls ++ rest) = some (s', M', m, rest) ∧ View W U n m s' M' (den E s) slv
  | 0, t, s, sk, ls, h, _, n, rest => by simp [skOf] at h
  | d + 1, t, s, sk, ls, h, ⟨dm, hm⟩, n, rest => by
    have leafCase : (∀ x, leafOf M t s = some x → skOf tab M (d + 1) t s = (match x with | .int k z => some (.int k, [.int k z]) | .bool b => some (.bool, [.bool b]) | .sl a l => some (.ro a, [.sl a l]))) → (leafOf M t s ≠ none) →
        ∃ s' M' m slv, sk.fill n (ls ++ rest) = some (s', M', m, rest) ∧ View W U n m s' M' (den E s) slv := by
      intro hx hne
      obtain ⟨x, hx'⟩ := Option.ne_none_iff_exists'.1 hne
      obtain ⟨s', M', m, slv, h1, h2⟩ := view_leaf hM hx' hm n rest
      have := (hx x hx').symm.trans h
      cases x <;> simp only [Option.some.injEq, Prod.mk.injEq] at this <;> (obtain ⟨rfl, rfl⟩ := this; exact ⟨s', M', m, slv, h1, h2⟩)
    cases s with
    | ptr j off =>
      simp only [skOf] at h
      split at h
      · rename_i cs ty b hj
        split at h
        · rename_i ss l hl
          simp only [Option.some.injEq, Prod.mk.injEq] at h
          obtain ⟨rfl, rfl⟩ := h
          · obtain ⟨_, hcs, h3, _, h5⟩ := hM.at_ j _ hj
            simp only [AtomAt] at h3
            have hb := (h5 (E.blk j) (by simp [footOf])).1
            have hmm : (∃ dm, ModeL c E M W U dm cs) ∧ ¬ U (E.blk j) := by
              rcases hm with hm | ⟨hs, hU⟩
              · exact ⟨⟨0, .inl hm⟩, hm _ hb⟩
              · obtain ⟨_, h7, d', h8⟩ := still_sl (off := off) (n := 0) (q := 0) hM hj (.inr rfl) hs
                exact ⟨⟨d', .inr ⟨h8, hU⟩⟩, hU _ h7⟩
            obtain ⟨ss', M', m, slv, h6, h7⟩ := view_ofL hM d _ cs ss _ hl hmm.1 (n + 1) rest
            obtain ⟨slv', h8⟩ := view_ptr (a := ⟨E.blk j, 0, none⟩) h7 ⟨hb, hmm.2⟩ (fun i v hv => by rw [Addr.add_lit, cell_of_heap h3, Nat.zero_add]; exact hv) off
            refine ⟨.eptr n 0 0 off, (n, .rop ss') :: M', m, slv', by simp [Sk.fill, h6], ?_⟩
            rw [Addr.add_lit, Nat.zero_add] at h8
            exact h8
        · simp at h
      · simp at h
    | eptr j i k off =>
      cases k with
      | succ k => simp [skOf] at h
      | zero =>
        simp only [skOf] at h
        split at h
        · rename_i cs _ hj
          split at h
          · rename_i ss l hl
            simp only [Option.some.injEq, Prod.mk.injEq] at h
            obtain ⟨rfl, rfl⟩ := h
            obtain ⟨_, hcs, ⟨a, q1, q2, q3⟩, _, _⟩ := hM.at_ j _ hj
            have hm' : ∃ dm, ModeL c E M W U dm cs := by
              rcases hm with hm | ⟨hs, hU⟩
              · exact ⟨0, .inl hm⟩
              · cases dm with
                | zero => simp [SV.still] at hs
                | succ dm => exact ⟨dm, .inr ⟨by simpa [SV.still, hj] using hs, hU⟩⟩
            obtain ⟨ss', M', m, slv, h6, h7⟩ := view_ofL hM d _ cs ss _ hl hm' (n + 1) rest
            have hb : a.block < W.heap.size ∧ ¬ U a.block := by
              refine ⟨still_lt hM q2, ?_⟩
              rcases hm with hm | ⟨_, hU⟩
              · exact hm _ (still_lt hM q2)
              · exact hU _ q2
            obtain ⟨slv', h8⟩ := view_ptr h7 hb (fun i v hv => by
              rw [denL_eq, List.getElem?_map] at hv
              cases hs : cs[i]? with
              | none => simp [hs] at hv
              | some s =>
                simp only [hs, Option.map_some, Option.some.injEq] at hv
                subst hv
                exact q3 i s hs) off
            refine ⟨.eptr n 0 0 off, (n, .rop ss') :: M', m, slv', by simp [Sk.fill, h6], ?_⟩
            simpa [den, q1] using h8
          · simp at h
        · simp at h
    | fn f a b =>
      cases f with
      | func g =>
        simp only [skOf] at h
        split at h
        · rename_i x l y r h1 h2
          simp only [Option.some.injEq, Prod.mk.injEq] at h
          obtain ⟨rfl, rfl⟩ := h
          have hm2 : (∃ dm, ModeL c E M W U dm a) ∧ ∃ dm, ModeL c E M W U dm b := by
            rcases hm with hm | ⟨hs, hU⟩
            · exact ⟨⟨0, .inl hm⟩, ⟨0, .inl hm⟩⟩
            · cases dm with
              | zero => simp [SV.still] at hs
              | succ dm =>
                simp only [SV.still] at hs
                cases ha : stillL M dm a with
                | false => simp [ha] at hs
                | true =>
                  simp only [ha] at hs
                  exact ⟨⟨dm, .inr ⟨ha, hU⟩⟩, ⟨dm, .inr ⟨hs, hU⟩⟩⟩
          obtain ⟨a', M1, m1, s1, q1, q2⟩ := view_ofL hM d _ a x l h1 hm2.1 n (r ++ rest)
          obtain ⟨b', M2, m2, s2, q3, q4⟩ := view_ofL hM d _ b y r h2 hm2.2 m1 rest
          obtain ⟨a1, a2, a3⟩ := q2
          obtain ⟨b1, b2, b3⟩ := q4
          refine ⟨.fn (.func g) a' b', M1 ++ M2, m2, fun k => if k < m1 then s1 k else s2 k, by simp [Sk.fill, q1, q3], by omega, ⟨okL_mono (fun k hk => ⟨by omega, by omega⟩) a' a2, okL_mono (fun k hk => ⟨by omega, by omega⟩) b' b2⟩, fun E' hE => ?_⟩
          obtain ⟨c1, c2⟩ := a3 E' fun k h1 h2 => by rw [hE k h1 (by omega)]; simp [h2]
          obtain ⟨d1, d2⟩ := b3 E' fun k h1 h2 => by rw [hE k (by omega) h2]; simp [Nat.not_lt.2 h1]
          refine ⟨by simp [den, c1, d1], fun k A hk => ?_⟩
          rw [List.mem_append] at hk
          rcases hk with hk | hk
          · exact (c2.mono (Nat.le_refl _) b1) k A hk
          · exact (d2.mono a1 (Nat.le_refl _)) k A hk
        · simp at h
      | _ => simp [skOf] at h
    | v x =>
      cases x with
      | func f a b =>
        simp only [skOf] at h
        split at h
        · rename_i g ha hb
          simp only [Option.some.injEq, Prod.mk.injEq] at h
          obtain ⟨rfl, rfl⟩ := h
          have ea : a = #[] := by rw [← Array.toArray_toList (xs := a), ha]
          have eb : b = #[] := by rw [← Array.toArray_toList (xs := b), hb]
          subst ea eb
          exact ⟨.fn (.func g) [] [], [], n, fun _ => (none, 0, 0), by simp [Sk.fill, fillL], Nat.le_refl _, ⟨trivial, trivial⟩, fun E' _ => ⟨by simp [den, denL], fun k A h => by simp at h⟩⟩
        · simp at h
      | int k z => exact leafCase (fun x hx => by simp [skOf, hx] ; cases x <;> rfl) (fun e => by simp [skOf, e] at h)
      | bool b => exact leafCase (fun x hx => by simp [skOf, hx] ; cases x <;> rfl) (fun e => by simp [skOf, e] at h)
      | slice A m q => exact leafCase (fun x hx => by simp [skOf, hx] ; cases x <;> rfl) (fun e => by simp [skOf, e] at h)
      | _ => simp [skOf, leafOf, leaf0] at h
    | own j => exact leafCase (fun x hx => by simp [skOf, hx] ; cases x <;> rfl) (fun e => by simp [skOf, e] at h)
    | sl j off m q => exact leafCase (fun x hx => by simp [skOf, hx] ; cases x <;> rfl) (fun e => by simp [skOf, e] at h)
    | _ => simp [skOf, leafOf, leaf0] at h
theorem view_ofL {E : Env} {p : Nat → Prop} {W : World} (hM : SatM c E p (fun k => getM k M) W) {U : Nat → Prop} : ∀ (d : Nat) (ts : List (Option Ty)) (ss : List SV) (sks : List Sk) (ls : List Leaf), skL tab M d ts ss = some (sks, ls) → (∃ dm, ModeL c E M W U dm ss) → ∀ (n : Nat) (rest : List Leaf),
    ∃ ss' M' m slv, fillL sks n (ls ++ rest) = some (ss', M', m, rest) ∧ ViewL W U n m ss' M' (denL E ss) slv
  | 0, ts, ss, sks, ls, h, _, n, rest => by simp [skL] at h
  | d + 1, ts, ss, sks, ls, h, ⟨dm, hm⟩, n, rest => by
    cases ss with
    | nil =>
      simp only [skL, Option.some.injEq, Prod.mk.injEq] at h
      obtain ⟨rfl, rfl⟩ := h
      exact ⟨[], [], n, fun _ => (none, 0, 0), by simp [fillL], viewL_nil W U n _⟩
    | cons s r =>
      simp only [skL] at h
      split at h
      · simp at h
      · rename_i x l h1
        split at h
        · simp at h
        · rename_i xs l' h2
          simp only [Option.some.injEq, Prod.mk.injEq] at h
          obtain ⟨rfl, rfl⟩ := h
          obtain ⟨dm', hm1, hm2⟩ := hm.cons
          obtain ⟨s', M1, m1, s1, q1, q2⟩ := view_of hM d _ s x l h1 ⟨dm', hm1⟩ n (l' ++ rest)
          obtain ⟨ss', M2, m2, s2, q3, q4⟩ := view_ofL hM d _ r xs l' h2 ⟨dm', hm2⟩ m1 rest
          exact ⟨s' :: ss', M1 ++ M2, m2, _, by simp [fillL, q1, q3], viewL_cons q2 q4⟩
end
end
end Go.VM

/-
Calls: what they hand over.
-/
set_option linter.unusedVariables false
set_option linter.unusedSimpArgs false
namespace Go.VM
open Go.RowKit
/-! Keys, moved on. -/
mutual
def shS (n : Nat) : SV → SV
  | .v x => .v x
  | .ptr j off => .ptr (n + j) off
  | .xptr j off i k o => .xptr (n + j) off i k o
  | .sl j off m q => .sl (n + j) off m q
  | .own j => .own (n + j)
  | .eptr j i k o => .eptr (n + j) i k o
  | .fn f x y => .fn f (shL n x) (shL n y)
  | .agg cs => .agg (shL n cs)
  | .tup cs => .tup (shL n cs)
  | .yf j => .yf (n + j)
def shL (n : Nat) : List SV → List SV
  | [] => []
  | x :: r => shS n x :: shL n r
end

def shA (n : Nat) : Atom → Atom
  | .box cs t b => .box (shL n cs) t b
  | .rop cs => .rop (shL n cs)
  | A => A

def shM (n : Nat) : List (Nat × Atom) → List (Nat × Atom)
  | [] => []
  | (k, A) :: r => (n + k, shA n A) :: shM n r
mutual
theorem den_sh {E E' : Env} {n N : Nat} (h : ∀ k, k < N → E'.blk (n + k) = E.blk k ∧ E'.slv (n + k) = E.slv k) : ∀ s : SV, s.ok (fun k => k < N) → den E' (shS n s) = den E s
  | .v _, _ => rfl
  | .ptr j _, hk => by simp only [shS, den, (h j hk).1]
  | .xptr j _ _ _ _, hk => by simp only [shS, den, (h j hk).1]
  | .sl j _ _ _, hk => by simp only [shS, den, (h j hk).1]
  | .own j, hk => by simp only [shS, den, (h j hk).2]
  | .eptr j _ _ _, hk => by simp only [shS, den, (h j hk).2]
  | .fn f x y, hk => by simp only [shS, den, denL_sh h x hk.1, denL_sh h y hk.2]
  | .agg cs, hk => by simp only [shS, den, denL_sh h cs hk]
  | .tup cs, hk => by simp only [shS, den, denL_sh h cs hk]
  | .yf j, hk => by simp only [shS, den, (h j hk).1]
theorem denL_sh {E E' : Env} {n N : Nat} (h : ∀ k, k < N → E'.blk (n + k) = E.blk k ∧ E'.slv (n + k) = E.slv k) : ∀ l : List SV, okL (fun k => k < N) l → denL E' (shL n l) = denL E l
  | [], _ => rfl
  | x :: r, hk => by simp only [shL, denL, den_sh h x hk.1, denL_sh h r hk.2]
end
mutual
theorem ok_sh {p : Nat → Prop} {n N : Nat} (h : ∀ k, k < N → p (n + k)) : ∀ s : SV, s.ok (fun k => k < N) → (shS n s).ok p
  | .v _, _ => trivial
  | .ptr j _, hk => h j hk
  | .xptr j _ _ _ _, hk => h j hk
  | .sl j _ _ _, hk => h j hk
  | .own j, hk => h j hk
  | .eptr j _ _ _, hk => h j hk
  | .fn f x y, hk => ⟨okL_sh h x hk.1, okL_sh h y hk.2⟩
  | .agg cs, hk => okL_sh h cs hk
  | .tup cs, hk => okL_sh h cs hk
  | .yf j, hk => h j hk
theorem okL_sh {p : Nat → Prop} {n N : Nat} (h : ∀ k, k < N → p (n + k)) : ∀ l : List SV, okL (fun k => k < N) l → okL p (shL n l)
  | [], _ => trivial
  | x :: r, hk => ⟨ok_sh h x hk.1, okL_sh h r hk.2⟩
end


mutual
/-- A shape without boxes that may be written, and without keys. -/
def Sk.plain : Sk → Bool
  | .box _ _ _ => false
  | .ref _ _ => false
  | .ptr cs _ => plainL cs
  | .fn _ a b => match plainL a with
    | true => plainL b
    | false => false
  | .agg cs => plainL cs
  | .tup cs => plainL cs
  | .yf => false
  | _ => true
def plainL : List Sk → Bool
  | [] => true
  | x :: r => match x.plain with
    | true => plainL r
    | false => false
end

theorem shM_append (d : Nat) : ∀ M M' : List (Nat × Atom), shM d (M ++ M') = shM d M ++ shM d M'
  | [], M' => rfl
  | (k, A) :: r, M' => by simp [shM, shM_append d r M']

mutual
theorem fill_shift (d : Nat) : ∀ (sk : Sk) (n : Nat) (l : List Leaf) (s : SV) (M : List (Nat × Atom)) (m : Nat) (r : List Leaf), sk.plain = true → sk.fill n l = some (s, M, m, r) → sk.fill (d + n) l = some (shS d s, shM d M, d + m, r)
  | .int k, n, l, s, M, m, r, hp, h => by
    simp only [Sk.fill] at h ⊢
    split at h
    · split at h
      · split at h
        · simp only [Option.some.injEq, Prod.mk.injEq] at h
          obtain ⟨rfl, rfl, rfl, rfl⟩ := h
          simp_all [shS, shM]
        · simp at h
      · simp at h
    · simp at h
  | .bool, n, l, s, M, m, r, hp, h => by
    simp only [Sk.fill] at h ⊢
    split at h
    · split at h
      · simp only [Option.some.injEq, Prod.mk.injEq] at h
        obtain ⟨rfl, rfl, rfl, rfl⟩ := h
        simp [shS, shM]
      · simp at h
    · simp at h
  | .ro t, n, l, s, M, m, r, hp, h => by
    simp only [Sk.fill] at h ⊢
    split at h
    · split at h
      · rename_i q hq
        simp only [Option.some.injEq, Prod.mk.injEq] at h
        obtain ⟨rfl, rfl, rfl, rfl⟩ := h
        simp [hq, shS, shM, shA, Nat.add_assoc]
      · simp at h
    · simp at h
  | .own ty t, n, l, s, M, m, r, hp, h => by
    simp only [Sk.fill] at h ⊢
    split at h
    · split at h
      · rename_i q hq
        simp only [Option.some.injEq, Prod.mk.injEq] at h
        obtain ⟨rfl, rfl, rfl, rfl⟩ := h
        simp [hq, shS, shM, shA, Nat.add_assoc]
      · simp at h
    · simp at h
  | .box _ _ _, n, l, s, M, m, r, hp, h => by simp [Sk.plain] at hp
  | .ref _ _, n, l, s, M, m, r, hp, h => by simp [Sk.plain] at hp
  | .ptr cs off, n, l, s, M, m, r, hp, h => by
    simp only [Sk.plain] at hp
    simp only [Sk.fill] at h ⊢
    split at h
    · rename_i ss M' m' r' hf
      simp only [Option.some.injEq, Prod.mk.injEq] at h
      obtain ⟨rfl, rfl, rfl, rfl⟩ := h
      rw [Nat.add_assoc, fillL_shift d cs _ _ _ _ _ _ hp hf]
      simp [shS, shM, shA]
    · simp at h
  | .fn g a b, n, l, s, M, m, r, hp, h => by
    simp only [Sk.plain] at hp
    cases ha : plainL a with
    | false => simp [ha] at hp
    | true =>
      simp only [ha] at hp
      simp only [Sk.fill] at h ⊢
      split at h
      · rename_i ss M' m' r' hf
        split at h
        · rename_i qs M2 m2 r2 hf2
          simp only [Option.some.injEq, Prod.mk.injEq] at h
          obtain ⟨rfl, rfl, rfl, rfl⟩ := h
          rw [fillL_shift d a _ _ _ _ _ _ ha hf]
          simp only
          rw [fillL_shift d b _ _ _ _ _ _ hp hf2]
          simp [shS, shM_append]
        · simp at h
      · simp at h
  | .agg cs, n, l, s, M, m, r, hp, h => by
    simp only [Sk.plain] at hp
    simp only [Sk.fill] at h ⊢
    split at h
    · rename_i ss M' m' r' hf
      simp only [Option.some.injEq, Prod.mk.injEq] at h
      obtain ⟨rfl, rfl, rfl, rfl⟩ := h
      rw [fillL_shift d cs _ _ _ _ _ _ hp hf]
      simp [shS]
    · simp at h
  | .tup cs, n, l, s, M, m, r, hp, h => by
    simp only [Sk.plain] at hp
    simp only [Sk.fill] at h ⊢
    split at h
    · rename_i ss M' m' r' hf
      simp only [Option.some.injEq, Prod.mk.injEq] at h
      obtain ⟨rfl, rfl, rfl, rfl⟩ := h
      rw [fillL_shift d cs _ _ _ _ _ _ hp hf]
      simp [shS]
    · simp at h
  | .nilp, n, l, s, M, m, r, hp, h => by
    simp only [Sk.fill, Option.some.injEq, Prod.mk.injEq] at h ⊢
    obtain ⟨rfl, rfl, rfl, rfl⟩ := h
    exact ⟨rfl, rfl, rfl, rfl⟩
theorem fillL_shift (d : Nat) : ∀ (sks : List Sk) (n : Nat) (l : List Leaf) (ss : List SV) (M : List (Nat × Atom)) (m : Nat) (r : List Leaf), plainL sks = true → fillL sks n l = some (ss, M, m, r) → fillL sks (d + n) l = some (shL d ss, shM d M, d + m, r)
  | [], n, l, ss, M, m, r, hp, h => by
    simp only [fillL, Option.some.injEq, Prod.mk.injEq] at h
    obtain ⟨rfl, rfl, rfl, rfl⟩ := h
    simp [fillL, shL, shM]
  | x :: q, n, l, ss, M, m, r, hp, h => by
    simp only [plainL] at hp
    cases hx : x.plain with
    | false => simp [hx] at hp
    | true =>
      simp only [hx] at hp
      simp only [fillL] at h ⊢
      split at h
      · rename_i s' M' m' r' hf
        split at h
        · rename_i qs M2 m2 r2 hf2
          simp only [Option.some.injEq, Prod.mk.injEq] at h
          obtain ⟨rfl, rfl, rfl, rfl⟩ := h
          rw [fill_shift d x _ _ _ _ _ _ hx hf]
          simp only
          rw [fillL_shift d q _ _ _ _ _ _ hp hf2]
          simp [shL, shM_append]
        · simp at h
      · simp at h
end

theorem getM_mem' : ∀ {M : List (Nat × Atom)} {k : Nat} {A : Atom}, getM k M = some A → (k, A) ∈ M
  | [], k, A, h => by simp [getM] at h
  | (j, B) :: r, k, A, h => by
    simp only [getM] at h
    cases hb : Nat.beq j k with
    | true =>
      simp only [hb, Option.some.injEq] at h
      have := Nat.eq_of_beq_eq_true hb
      subst this h
      simp
    | false =>
      simp only [hb] at h
      simp [getM_mem' h]

/-! ### What is handed, put together -/
theorem viewL_append {W : World} {U : Nat → Prop} : ∀ {n m r : Nat} {ss ss' : List SV} {M1 M2 : List (Nat × Atom)} {vs vs' : List Value} {s1 s2 : Nat → Option Addr × Nat × Nat}, ViewL W U n m ss M1 vs s1 → ViewL W U m r ss' M2 vs' s2 →
    ViewL W U n r (ss ++ ss') (M1 ++ M2) (vs ++ vs') (fun k => if k < m then s1 k else s2 k) := by
  intro n m r ss ss' M1 M2 vs vs' s1 s2 h1 h2
  obtain ⟨a1, a2, a3⟩ := h1
  obtain ⟨b1, b2, b3⟩ := h2
  refine ⟨by omega, ?_, fun E' hE => ?_⟩
  · refine (okL_iff _ _).2 fun s hs => ?_
    rw [List.mem_append] at hs
    rcases hs with hs | hs
    · exact ok_mono (fun k hk => ⟨by omega, by omega⟩) s ((okL_iff _ _).1 a2 s hs)
    · exact ok_mono (fun k hk => ⟨by omega, by omega⟩) s ((okL_iff _ _).1 b2 s hs)
  obtain ⟨c1, c2⟩ := a3 E' fun k h1 h2 => by rw [hE k h1 (by omega)]; simp [h2]
  obtain ⟨d1, d2⟩ := b3 E' fun k h1 h2 => by rw [hE k (by omega) h2]; simp [Nat.not_lt.2 h1]
  refine ⟨by rw [denL_append, c1, d1], fun k A hk => ?_⟩
  rw [List.mem_append] at hk
  rcases hk with hk | hk
  · exact (c2.mono (Nat.le_refl _) b1) k A hk
  · exact (d2.mono a1 (Nat.le_refl _)) k A hk

theorem fillL_append : ∀ (xs ys : List Sk) (n : Nat) (l : List Leaf) (ss : List SV) (M : List (Nat × Atom)) (m : Nat) (r : List Leaf) (ss' : List SV) (M' : List (Nat × Atom)) (m' : Nat) (r' : List Leaf), fillL xs n l = some (ss, M, m, r) → fillL ys m r = some (ss', M', m', r') → fillL (xs ++ ys) n l = some (ss ++ ss', M ++ M', m', r')
  | [], ys, n, l, ss, M, m, r, ss', M', m', r', h, h' => by
    simp only [fillL, Option.some.injEq, Prod.mk.injEq] at h
    obtain ⟨rfl, rfl, rfl, rfl⟩ := h
    simpa using h'
  | x :: q, ys, n, l, ss, M, m, r, ss', M', m', r', h, h' => by
    simp only [fillL] at h
    split at h
    · rename_i s1 M1 m1 r1 hf
      split at h
      · rename_i qs M2 m2 r2 hf2
        simp only [Option.some.injEq, Prod.mk.injEq] at h
        obtain ⟨rfl, rfl, rfl, rfl⟩ := h
        simp only [List.cons_append, fillL, hf, fillL_append q ys _ _ _ _ _ _ _ _ _ _ hf2 h', List.append_assoc]
      · simp at h
    · simp at h
section
variable {tab : Nat → Option TI} {P : Program} {c : Ctx} {key : Nat} {fr : List (Nat × SV)} {M : List (Nat × Atom)} {K : Res → Prop} {o : Oper}

theorem stillL_mono : ∀ (d : Nat) (l l' : List SV), stillL M d (l ++ l') = true → stillL M d l = true ∧ stillL M d l' = true
  | 0, l, l', h => by simp [stillL] at h
  | d + 1, [], l', h => ⟨by simp [stillL], h⟩
  | d + 1, s :: r, l', h => by
    simp only [List.cons_append, stillL] at h ⊢
    cases hs : s.still M d with
    | false => simp [hs] at h
    | true =>
      simp only [hs] at h ⊢
      obtain ⟨h1, h2⟩ := stillL_mono d r l' h
      refine ⟨h1, ?_⟩
      exact stillL_succ d l' h2
where
  still_succ : ∀ (d : Nat) (s : SV), s.still M d = true → s.still M (d + 1) = true
  | 0, s, h => by simp [SV.still] at h
  | d + 1, s, h => by
    cases s with
    | eptr j i k o =>
      rw [SV.still] at h ⊢
      cases hj : getM j M with
      | none => simp [hj] at h
      | some A =>
        cases A with
        | rop cs =>
          simp only [hj] at h ⊢
          exact stillL_succ d cs h
        | _ => simp [hj] at h
    | ptr j o =>
      rw [SV.still] at h ⊢
      split at h
      · exact stillL_succ d _ h
      · cases h
    | sl j o n q =>
      rw [SV.still] at h ⊢
      split at h
      · exact stillL_succ d _ h
      · cases h
    | fn f a b =>
      simp only [SV.still] at h ⊢
      cases ha : stillL M d a with
      | false => simp [ha] at h
      | true =>
        simp only [ha] at h
        simp only [stillL_succ d a ha, stillL_succ d b h]
    | agg cs =>
      simp only [SV.still] at h ⊢
      exact stillL_succ d cs h
    | v x => simp [SV.still]
    | own j => simpa [SV.still] using h
    | _ => simp [SV.still] at h
  stillL_succ : ∀ (d : Nat) (l : List SV), stillL M d l = true → stillL M (d + 1) l = true
  | 0, l, h => by simp [stillL] at h
  | d + 1, [], h => by simp [stillL]
  | d + 1, s :: r, h => by
    simp only [stillL] at h
    cases hs : s.still M d with
    | false => simp [hs] at h
    | true =>
      simp only [hs] at h
      have h1 := still_succ d s hs
      have h2 := stillL_succ d r h
      rw [stillL]
      simp only [h1]
      exact h2
end
end Go.VM

/-
Calls: what is told of functions.
-/
set_option linter.unusedVariables false
set_option linter.unusedSimpArgs false
namespace Go.VM
open Go.RowKit

theorem told_plain : ∀ (res : List Sk) (r : RT res), plainL res = true → (toldR res r).1.plain = true
  | [], r, _ => nomatch r
  | [x], r, h => by
    simp only [plainL] at h
    cases hx : x.plain with
    | true => exact hx
    | false => simp [hx] at h
  | x :: y :: q, r, h => by
    rw [plainL] at h
    cases hx : x.plain with
    | false => simp [hx] at h
    | true =>
      simp only [hx] at h
      cases r with
      | inl a => exact hx
      | inr r => exact told_plain (y :: q) r h
theorem told_refs : ∀ (res : List Sk) (r : RT res), refsL res = false → (toldR res r).1.refs = false
  | [], r, _ => nomatch r
  | [x], r, h => by
    simp only [refsL] at h
    cases hx : x.refs with
    | false => exact hx
    | true => simp [hx] at h
  | x :: y :: q, r, h => by
    rw [refsL] at h
    cases hx : x.refs with
    | true => simp [hx] at h
    | false =>
      simp only [hx] at h
      cases r with
      | inl a => exact hx
      | inr r => exact told_refs (y :: q) r h
theorem dispR_eval {R : Type} {K : Sk → List Leaf → Tree R} : ∀ (res : List Sk) (r : RT res), (dispR K res r).eval = (K (toldR res r).1 (toldR res r).2).eval
  | [], r => nomatch r
  | [x], r => rfl
  | x :: y :: q, r => by
    cases r with
    | inl a => rfl
    | inr r => exact dispR_eval (y :: q) r

/-- What is told of a function, holds. -/
structure SpecOK (P : Program) (s : Spec) : Prop where
  enters : Enters P s.g
  plain : plainL s.res = true
  call : ∀ (x : pt (tysL s.args)) (r : RT s.res), s.f x = some r → ∀ (W : World) (U : Nat → Prop) (E : Env) (ss : List SV) (M : List (Nat × Atom)) (n : Nat), fillL s.args 0 (toL (tysL s.args) x) = some (ss, M, n, []) → SatM (c0 W U) E (fun k => k < n) (fun k => getM k M) W →
    Calls P s.g (denL E ss).toArray W fun e W' => ∃ (sv : SV) (M' : List (Nat × Atom)) (n' : Nat) (E' : Env), (toldR s.res r).1.fill 0 (toldR s.res r).2 = some (sv, M', n', []) ∧ e = .returned (den E' sv) ∧ sv.ok (fun k => k < n') ∧ SatM (c0 W U) E' (fun k => k < n') (fun k => getM k M') W'

theorem as_flat {t : Ty} {x : Leaf} {z : t.den} (h : x.as t = some z) : flat t z = [x] := by
  cases t with
  | int k => have := as_int h; subst this; rfl
  | bool => have := as_bool h; subst this; rfl
  | slice a => have := as_slice h; subst this; rfl
  | prod a b => cases x <;> simp [Leaf.as] at h

theorem toL_ofL (ts : List Ty) : ∀ (ls : List Leaf) (x : pt ts), ofL ts ls = some x → toL ts x = ls := by
  induction ts with
  | nil =>
    intro ls x h
    cases ls with
    | nil => rfl
    | cons y q => cases h
  | cons t r ih =>
    intro ls x h
    cases r with
    | nil =>
      cases ls with
      | nil => cases h
      | cons y q =>
        cases q with
        | nil => exact as_flat (t := t) h
        | cons _ _ => cases h
    | cons u r =>
      cases ls with
      | nil => cases h
      | cons y q =>
        have h' : (match y.as t with
          | none => none
          | some z => match ofL (u :: r) q with
            | none => none
            | some y => some (z, y)) = some x := h
        cases hy : y.as t with
        | none => simp only [hy] at h'; cases h'
        | some z =>
          simp only [hy] at h'
          cases hr : ofL (u :: r) q with
          | none => simp only [hr] at h'; cases h'
          | some w =>
            simp only [hr] at h'
            cases h'
            show flat t z ++ toL (u :: r) w = y :: q
            rw [ih q w hr, as_flat hy]
            rfl

mutual
theorem sk_beq_eq : ∀ (a b : Sk), a.beq b = true → a = b
  | .int k, b, h => by cases b <;> simp [Sk.beq] at h; rw [h]
  | .bool, b, h => by cases b <;> simp [Sk.beq] at h; rfl
  | .ro t, b, h => by cases b <;> simp [Sk.beq] at h; rw [h]
  | .own y t, b, h => by
    cases b with
    | own y' t' =>
      simp only [Sk.beq] at h
      cases hy : Nat.beq y y' with
      | false => simp [hy] at h
      | true =>
        simp only [hy, decide_eq_true_eq] at h
        rw [Nat.eq_of_beq_eq_true hy, h]
    | _ => simp [Sk.beq] at h
  | .box cs y o, b, h => by
    cases b with
    | box cs' y' o' =>
      simp only [Sk.beq] at h
      cases hy : Nat.beq y y' with
      | false => simp [hy] at h
      | true =>
        cases hz : Nat.beq o o' with
        | false => simp [hy, hz] at h
        | true =>
          simp only [hy, hz] at h
          rw [Nat.eq_of_beq_eq_true hy, Nat.eq_of_beq_eq_true hz, beqL_eq cs cs' h]
    | _ => simp [Sk.beq] at h
  | .ref k o, b, h => by
    cases b with
    | ref k' o' =>
      simp only [Sk.beq] at h
      cases hy : Nat.beq k k' with
      | false => simp [hy] at h
      | true =>
        simp only [hy] at h
        rw [Nat.eq_of_beq_eq_true hy, Nat.eq_of_beq_eq_true h]
    | _ => simp [Sk.beq] at h
  | .ptr cs o, b, h => by
    cases b with
    | ptr cs' o' =>
      simp only [Sk.beq] at h
      cases hz : Nat.beq o o' with
      | false => simp [hz] at h
      | true =>
        simp only [hz] at h
        rw [Nat.eq_of_beq_eq_true hz, beqL_eq cs cs' h]
    | _ => simp [Sk.beq] at h
  | .fn g x y, b, h => by
    cases b with
    | fn g' x' y' =>
      simp only [Sk.beq] at h
      cases hz : Nat.beq g g' with
      | false => simp [hz] at h
      | true =>
        cases ha : beqL x x' with
        | false => simp [hz, ha] at h
        | true =>
          simp only [hz, ha] at h
          rw [Nat.eq_of_beq_eq_true hz, beqL_eq x x' ha, beqL_eq y y' h]
    | _ => simp [Sk.beq] at h
  | .agg cs, b, h => by
    cases b with
    | agg cs' => simp only [Sk.beq] at h; rw [beqL_eq cs cs' h]
    | _ => simp [Sk.beq] at h
  | .tup cs, b, h => by
    cases b with
    | tup cs' => simp only [Sk.beq] at h; rw [beqL_eq cs cs' h]
    | _ => simp [Sk.beq] at h
  | .nilp, b, h => by cases b <;> simp [Sk.beq] at h ⊢
  | .yf, b, h => by cases b <;> simp [Sk.beq] at h ⊢
theorem beqL_eq : ∀ (a b : List Sk), beqL a b = true → a = b
  | [], [], _ => rfl
  | [], _ :: _, h => by simp [beqL] at h
  | _ :: _, [], h => by simp [beqL] at h
  | x :: r, y :: q, h => by
    simp only [beqL] at h
    cases hx : x.beq y with
    | false => simp [hx] at h
    | true =>
      simp only [hx] at h
      rw [sk_beq_eq x y hx, beqL_eq r q h]
end

theorem findO_mem {g : Nat} {sk : List Sk} : ∀ {O : List Spec} {s : Spec}, findO g sk O = some s → s ∈ O ∧ s.g = g ∧ s.args = sk
  | [], s, h => by simp [findO] at h
  | x :: r, s, h => by
    simp only [findO] at h
    split at h
    · rename_i h1 h2
      injection h with h
      subst h
      exact ⟨by simp, Nat.eq_of_beq_eq_true h1, beqL_eq _ _ h2⟩
    · obtain ⟨h1, h2⟩ := findO_mem h
      exact ⟨by simp [h1], h2⟩

theorem Reps.closed {B B' : Nat → Prop} {W W' : World} : ∀ (t : Ty) (x : t.den) (vs : List Value), tyRefs t = false → Reps B W t x vs → Reps B' W' t x vs
  | .int _, _, _, _, h => h
  | .bool, _, _, _, h => h
  | .slice _, _, _, ht, _ => by simp [tyRefs] at ht
  | .prod a b, x, vs, ht, h => by
    simp only [tyRefs] at ht
    cases ha : tyRefs a with
    | true => simp [ha] at ht
    | false =>
      simp only [ha] at ht
      obtain ⟨v1, v2, h1, h2, h3⟩ := h
      exact ⟨v1, v2, h1, Reps.closed a _ _ ha h2, Reps.closed b _ _ ht h3⟩
theorem RepsL.closed {B B' : Nat → Prop} {W W' : World} {t : Ty} (ht : tyRefs t = false) : ∀ (l : List t.den) (vs : List Value), RepsL B W t l vs → RepsL B' W' t l vs
  | [], _, h => h
  | x :: r, vs, h => by
    obtain ⟨v1, v2, h1, h2, h3⟩ := h
    exact ⟨v1, v2, h1, Reps.closed t _ _ ht h2, RepsL.closed ht r _ h3⟩

/-- An atom that needs no others' memory. -/
def Atom.alone : Atom → Prop
  | .own _ t _ => tyRefs t = false
  | _ => False
mutual
theorem fill_alone : ∀ (sk : Sk) (n : Nat) (l : List Leaf) (s : SV) (M : List (Nat × Atom)) (m : Nat) (r : List Leaf), sk.refs = false → sk.fill n l = some (s, M, m, r) → ∀ k A, (k, A) ∈ M → A.alone
  | .int k, n, l, s, M, m, r, hp, h => by
    simp only [Sk.fill] at h
    split at h
    · split at h
      · split at h
        · simp only [Option.some.injEq, Prod.mk.injEq] at h
          obtain ⟨rfl, rfl, rfl, rfl⟩ := h
          simp
        · simp at h
      · simp at h
    · simp at h
  | .bool, n, l, s, M, m, r, hp, h => by
    simp only [Sk.fill] at h
    split at h
    · split at h
      · simp only [Option.some.injEq, Prod.mk.injEq] at h
        obtain ⟨rfl, rfl, rfl, rfl⟩ := h
        simp
      · simp at h
    · simp at h
  | .ro t, n, l, s, M, m, r, hp, h => by simp [Sk.refs] at hp
  | .own ty t, n, l, s, M, m, r, hp, h => by
    simp only [Sk.refs] at hp
    simp only [Sk.fill] at h
    split at h
    · split at h
      · simp only [Option.some.injEq, Prod.mk.injEq] at h
        obtain ⟨rfl, rfl, rfl, rfl⟩ := h
        intro k A hk
        simp only [List.mem_singleton, Prod.mk.injEq] at hk
        obtain ⟨rfl, rfl⟩ := hk
        exact hp
      · simp at h
    · simp at h
  | .box _ _ _, n, l, s, M, m, r, hp, h => by simp [Sk.refs] at hp
  | .ref _ _, n, l, s, M, m, r, hp, h => by simp [Sk.refs] at hp
  | .ptr _ _, n, l, s, M, m, r, hp, h => by simp [Sk.refs] at hp
  | .fn g a b, n, l, s, M, m, r, hp, h => by
    simp only [Sk.refs] at hp
    cases ha : refsL a with
    | true => simp [ha] at hp
    | false =>
      simp only [ha] at hp
      simp only [Sk.fill] at h
      split at h
      · rename_i ss M' m' r' hf
        split at h
        · rename_i qs M2 m2 r2 hf2
          simp only [Option.some.injEq, Prod.mk.injEq] at h
          obtain ⟨rfl, rfl, rfl, rfl⟩ := h
          intro k A hk
          rw [List.mem_append] at hk
          rcases hk with hk | hk
          · exact fillL_alone a _ _ _ _ _ _ ha hf k A hk
          · exact fillL_alone b _ _ _ _ _ _ hp hf2 k A hk
        · simp at h
      · simp at h
  | .agg cs, n, l, s, M, m, r, hp, h => by
    simp only [Sk.refs] at hp
    simp only [Sk.fill] at h
    split at h
    · rename_i ss M' m' r' hf
      simp only [Option.some.injEq, Prod.mk.injEq] at h
      obtain ⟨rfl, rfl, rfl, rfl⟩ := h
      exact fillL_alone cs _ _ _ _ _ _ hp hf
    · simp at h
  | .tup cs, n, l, s, M, m, r, hp, h => by
    simp only [Sk.refs] at hp
    simp only [Sk.fill] at h
    split at h
    · rename_i ss M' m' r' hf
      simp only [Option.some.injEq, Prod.mk.injEq] at h
      obtain ⟨rfl, rfl, rfl, rfl⟩ := h
      exact fillL_alone cs _ _ _ _ _ _ hp hf
    · simp at h
  | .nilp, n, l, s, M, m, r, hp, h => by
    simp only [Sk.fill, Option.some.injEq, Prod.mk.injEq] at h
    obtain ⟨rfl, rfl, rfl, rfl⟩ := h
    simp
theorem fillL_alone : ∀ (sks : List Sk) (n : Nat) (l : List Leaf) (ss : List SV) (M : List (Nat × Atom)) (m : Nat) (r : List Leaf), refsL sks = false → fillL sks n l = some (ss, M, m, r) → ∀ k A, (k, A) ∈ M → A.alone
  | [], n, l, ss, M, m, r, hp, h => by
    simp only [fillL, Option.some.injEq, Prod.mk.injEq] at h
    obtain ⟨rfl, rfl, rfl, rfl⟩ := h
    simp
  | x :: q, n, l, ss, M, m, r, hp, h => by
    simp only [refsL] at hp
    cases hx : x.refs with
    | true => simp [hx] at hp
    | false =>
      simp only [hx] at hp
      simp only [fillL] at h
      split at h
      · rename_i s' M' m' r' hf
        split at h
        · rename_i qs M2 m2 r2 hf2
          simp only [Option.some.injEq, Prod.mk.injEq] at h
          obtain ⟨rfl, rfl, rfl, rfl⟩ := h
          intro k A hk
          rw [List.mem_append] at hk
          rcases hk with hk | hk
          · exact fill_alone x _ _ _ _ _ _ hx hf k A hk
          · exact fillL_alone q _ _ _ _ _ _ hp hf2 k A hk
        · simp at h
      · simp at h
end

theorem gUpd_sh {g : Nat → Option Atom} {n : Nat} : ∀ (M : List (Nat × Atom)) (k : Nat), gUpd g (someU (shM n M)) (n + k) = match getM k M with
    | some A => some (shA n A)
    | none => g (n + k)
  | [], k => rfl
  | (j, B) :: r, k => by
    simp only [shM, someU, gUpd, getM]
    cases hb : Nat.beq j k with
    | true =>
      have := Nat.eq_of_beq_eq_true hb
      subst this
      simp
    | false =>
      have hne : ¬ (n + k = n + j) := fun e => by
        have : j = k := by omega
        subst this
        rw [show Nat.beq j j = true from Nat.beq_refl j] at hb
        cases hb
      simp only [if_neg hne]
      exact gUpd_sh r k
theorem gUpd_sh_out {g : Nat → Option Atom} {n N : Nat} : ∀ (M : List (Nat × Atom)) (k : Nat), (∀ j A, (j, A) ∈ M → j < N) → (k < n ∨ n + N ≤ k) → gUpd g (someU (shM n M)) k = g k
  | [], k, _, _ => rfl
  | (j, B) :: r, k, hh, hk => by
    have hj : j < N := hh j B (by simp)
    simp only [shM, someU, gUpd]
    rw [if_neg (by omega)]
    exact gUpd_sh_out r k (fun i A hi => hh i A (by simp [hi])) hk
theorem keysU_sh {n N : Nat} : ∀ (M : List (Nat × Atom)), (∀ j A, (j, A) ∈ M → j < N) → ∀ k, k ∈ keysU (someU (shM n M)) → k < n + N
  | [], _, k, h => by simp [shM, someU, keysU] at h
  | (j, B) :: r, hh, k, h => by
    have hj : j < N := hh j B (by simp)
    simp only [shM, someU, keysU, List.mem_cons] at h
    rcases h with rfl | h
    · omega
    · exact keysU_sh r (fun i A hi => hh i A (by simp [hi])) k h

mutual
theorem fill_keys : ∀ (sk : Sk) (n : Nat) (l : List Leaf) (s : SV) (M : List (Nat × Atom)) (m : Nat) (r : List Leaf), sk.fill n l = some (s, M, m, r) → n ≤ m ∧ ∀ k A, (k, A) ∈ M → n ≤ k ∧ k < m
  | .int k, n, l, s, M, m, r, h => by
    simp only [Sk.fill] at h
    split at h
    · split at h
      · split at h
        · simp only [Option.some.injEq, Prod.mk.injEq] at h
          obtain ⟨rfl, rfl, rfl, rfl⟩ := h
          simp
        · simp at h
      · simp at h
    · simp at h
  | .bool, n, l, s, M, m, r, h => by
    simp only [Sk.fill] at h
    split at h
    · split at h
      · simp only [Option.some.injEq, Prod.mk.injEq] at h
        obtain ⟨rfl, rfl, rfl, rfl⟩ := h
        simp
      · simp at h
    · simp at h
  | .ro t, n, l, s, M, m, r, h => by
    simp only [Sk.fill] at h
    split at h
    · split at h
      · simp only [Option.some.injEq, Prod.mk.injEq] at h
        obtain ⟨rfl, rfl, rfl, rfl⟩ := h
        refine ⟨Nat.le_succ _, fun k A hk => ?_⟩
        simp only [List.mem_singleton, Prod.mk.injEq] at hk
        omega
      · simp at h
    · simp at h
  | .own ty t, n, l, s, M, m, r, h => by
    simp only [Sk.fill] at h
    split at h
    · split at h
      · simp only [Option.some.injEq, Prod.mk.injEq] at h
        obtain ⟨rfl, rfl, rfl, rfl⟩ := h
        refine ⟨Nat.le_succ _, fun k A hk => ?_⟩
        simp only [List.mem_singleton, Prod.mk.injEq] at hk
        omega
      · simp at h
    · simp at h
  | .box cs ty off, n, l, s, M, m, r, h => by
    simp only [Sk.fill] at h
    split at h
    · rename_i ss M' m' r' hf
      simp only [Option.some.injEq, Prod.mk.injEq] at h
      obtain ⟨rfl, rfl, rfl, rfl⟩ := h
      obtain ⟨h1, h2⟩ := fillL_keys cs _ _ _ _ _ _ hf
      refine ⟨by omega, fun k A hk => ?_⟩
      simp only [List.mem_cons, Prod.mk.injEq] at hk
      rcases hk with hk | hk
      · omega
      · have := h2 k A hk; omega
    · simp at h
  | .ref _ _, n, l, s, M, m, r, h => by
    simp only [Sk.fill, Option.some.injEq, Prod.mk.injEq] at h
    obtain ⟨rfl, rfl, rfl, rfl⟩ := h
    simp
  | .ptr cs off, n, l, s, M, m, r, h => by
    simp only [Sk.fill] at h
    split at h
    · rename_i ss M' m' r' hf
      simp only [Option.some.injEq, Prod.mk.injEq] at h
      obtain ⟨rfl, rfl, rfl, rfl⟩ := h
      obtain ⟨h1, h2⟩ := fillL_keys cs _ _ _ _ _ _ hf
      refine ⟨by omega, fun k A hk => ?_⟩
      simp only [List.mem_cons, Prod.mk.injEq] at hk
      rcases hk with hk | hk
      · omega
      · have := h2 k A hk; omega
    · simp at h
  | .fn g a b, n, l, s, M, m, r, h => by
    simp only [Sk.fill] at h
    split at h
    · rename_i ss M' m' r' hf
      split at h
      · rename_i qs M2 m2 r2 hf2
        simp only [Option.some.injEq, Prod.mk.injEq] at h
        obtain ⟨rfl, rfl, rfl, rfl⟩ := h
        obtain ⟨h1, h2⟩ := fillL_keys a _ _ _ _ _ _ hf
        obtain ⟨h3, h4⟩ := fillL_keys b _ _ _ _ _ _ hf2
        refine ⟨by omega, fun k A hk => ?_⟩
        rw [List.mem_append] at hk
        rcases hk with hk | hk
        · have := h2 k A hk; omega
        · have := h4 k A hk; omega
      · simp at h
    · simp at h
  | .agg cs, n, l, s, M, m, r, h => by
    simp only [Sk.fill] at h
    split at h
    · rename_i ss M' m' r' hf
      simp only [Option.some.injEq, Prod.mk.injEq] at h
      obtain ⟨rfl, rfl, rfl, rfl⟩ := h
      exact fillL_keys cs _ _ _ _ _ _ hf
    · simp at h
  | .tup cs, n, l, s, M, m, r, h => by
    simp only [Sk.fill] at h
    split at h
    · rename_i ss M' m' r' hf
      simp only [Option.some.injEq, Prod.mk.injEq] at h
      obtain ⟨rfl, rfl, rfl, rfl⟩ := h
      exact fillL_keys cs _ _ _ _ _ _ hf
    · simp at h
  | .nilp, n, l, s, M, m, r, h => by
    simp only [Sk.fill, Option.some.injEq, Prod.mk.injEq] at h
    obtain ⟨rfl, rfl, rfl, rfl⟩ := h
    simp
  | .yf, n, l, s, M, m, r, h => by
    simp only [Sk.fill, Option.some.injEq, Prod.mk.injEq] at h
    obtain ⟨rfl, rfl, rfl, rfl⟩ := h
    simp
theorem fillL_keys : ∀ (sks : List Sk) (n : Nat) (l : List Leaf) (ss : List SV) (M : List (Nat × Atom)) (m : Nat) (r : List Leaf), fillL sks n l = some (ss, M, m, r) → n ≤ m ∧ ∀ k A, (k, A) ∈ M → n ≤ k ∧ k < m
  | [], n, l, ss, M, m, r, h => by
    simp only [fillL, Option.some.injEq, Prod.mk.injEq] at h
    obtain ⟨rfl, rfl, rfl, rfl⟩ := h
    simp
  | x :: q, n, l, ss, M, m, r, h => by
    simp only [fillL] at h
    split at h
    · rename_i s' M' m' r' hf
      split at h
      · rename_i qs M2 m2 r2 hf2
        simp only [Option.some.injEq, Prod.mk.injEq] at h
        obtain ⟨rfl, rfl, rfl, rfl⟩ := h
        obtain ⟨h1, h2⟩ := fill_keys x _ _ _ _ _ _ hf
        obtain ⟨h3, h4⟩ := fillL_keys q _ _ _ _ _ _ hf2
        refine ⟨by omega, fun k A hk => ?_⟩
        rw [List.mem_append] at hk
        rcases hk with hk | hk
        · have := h2 k A hk; omega
        · have := h4 k A hk; omega
      · simp at h
    · simp at h
end
section
variable {tab : Nat → Option TI} {P : Program} {c : Ctx} {key : Nat} {fr : List (Nat × SV)} {M : List (Nat × Atom)} {K : Res → Prop} {o : Oper}
theorem callsIn_of {c : Ctx} {n : Nat} {f : FuncId} {args : Array Value} {W : World} {R : Ending → World → Prop} (h : Calls P f args W R) : CallsIn c.F n P f args W R :=
  (callsIn_wide (n := n)).2 h

/-- A call of a Go function, as the model enters it. -/
theorem call_wp {cl : Call} (ho : o.op = .call cl) {f : Operand} (hc : cl.callee = .value f) {g : Nat} {args : List SV} {a : Act} {E : Env} {W : World} (hE : Enters P g)
    (hf : ∃ x y : List Value, a.eval f = .func (.func g) x.toArray y.toArray ∧ x ++ cl.args.toList.map a.eval ++ y = denL E args) {next : Act → World → Prop} {Q : Exit → Act → World → Prop}
    (h : Calls P g (denL E args).toArray W fun e W' => ∃ v, e = .returned v ∧ next (a.put o.dst v) W') : o.wpIn c.F 9 P a W next Q := by
  obtain ⟨x, y, h1, h2⟩ := hf
  have hargs : x.toArray ++ Array.map a.eval cl.args ++ y.toArray = (denL E args).toArray := by
    rw [← h2]
    apply Array.ext'
    simp
  have hrun : (execOp a.eval o).run P W = .ok (.enter g (denL E args).toArray) W := by
    rw [← hargs]
    have hE' : ∀ (args : Array Value) (w : World), (callFunc g args).run P w = .ok (.enter g args) w := hE
    simp [execOp, ho, resolve, hc, h1, Deferred.ofValue, invoke, hE']
  refine ⟨fun f _ => trivial, ?_⟩
  rw [semAt_of (by simp) hrun]
  refine ⟨fun hd => by simp [Ctx.depth] at hd, ?_⟩
  exact callsIn_of (h.mono fun e W' ⟨v, he, hv⟩ => by subst he; exact hv)

end
theorem getM_keys : ∀ (M : List (Nat × Atom)) {k : Nat} {A : Atom}, getM k M = some A → k ∈ keysM M
  | [], k, A, h => by simp [getM] at h
  | (j, B) :: r, k, A, h => by
    simp only [getM] at h
    cases hb : Nat.beq j k with
    | true =>
      have := Nat.eq_of_beq_eq_true hb
      subst this
      simp [keysM]
    | false =>
      simp only [hb] at h
      simp [keysM, getM_keys r h]

theorem getM_erM : ∀ (M : List (Nat × Atom)) (j k : Nat), getM k (erM j M) = if k = j then none else getM k M
  | [], j, k => by simp [erM, getM]
  | (i, A) :: r, j, k => by
    simp only [erM]
    cases hb : Nat.beq i j with
    | true =>
      have := Nat.eq_of_beq_eq_true hb
      subst this
      simp only [getM, getM_erM r i k]
      by_cases e : k = i
      · simp [e]
      · rw [if_neg e, if_neg e]
        cases hb' : Nat.beq i k with
        | true => exact absurd (Nat.eq_of_beq_eq_true hb').symm e
        | false => rfl
    | false =>
      simp only [getM]
      cases hb' : Nat.beq i k with
      | true =>
        have := Nat.eq_of_beq_eq_true hb'
        subst this
        have : i ≠ j := fun e => by subst e; rw [Nat.beq_refl] at hb; cases hb
        simp [this]
      | false => simp only [getM_erM r j k]

theorem updM_get (M : List (Nat × Atom)) : ∀ (u : List (Nat × Option Atom)) (k : Nat), getM k (updM M u) = gUpd (fun k => getM k M) u k
  | [], k => rfl
  | (j, none) :: r, k => by
    simp only [updM, gUpd, getM_erM, updM_get M r k]
  | (j, some A) :: r, k => by
    simp only [updM, gUpd, getM, getM_erM, updM_get M r k]
    cases hb : Nat.beq j k with
    | true => simp [Nat.eq_of_beq_eq_true hb]
    | false =>
      have : k ≠ j := fun e => by subst e; rw [Nat.beq_refl] at hb; cases hb
      simp [this]

end Go.VM

/-
Calls: back in the memory of the caller.
-/
set_option linter.unusedVariables false
set_option linter.unusedSimpArgs false
namespace Go.VM
open Go.RowKit

theorem mem_shM {d k : Nat} {A : Atom} : ∀ {M : List (Nat × Atom)}, (k, A) ∈ M → (d + k, shA d A) ∈ shM d M
  | [], h => by simp at h
  | (j, B) :: r, h => by
    simp only [List.mem_cons, Prod.mk.injEq, shM] at h ⊢
    rcases h with ⟨rfl, rfl⟩ | h
    · exact .inl ⟨rfl, rfl⟩
    · exact .inr (mem_shM h)

theorem fzn_of_noFoot {A : Atom} {k : Nat} (h : ∀ E, footOf E k A = []) (E : Env) : A.fzn E k := by
  cases A with
  | box cs t b => have := h E; simp [footOf] at this
  | own ty t l =>
    have := h ⟨fun _ => 0, fun _ => (some ⟨0, 0, none⟩, 0, 0), fun _ => False, [], 0, []⟩
    simp [footOf] at this
  | mark => have := h E; simp [footOf] at this
  | pin => have := h E; simp only [footOf] at this; simp [Atom.fzn, this]
  | rnd t l => have := h E; simp only [footOf] at this; simp [Atom.fzn, this]
  | _ => trivial

/-- What is handed, as the callee's memory. -/
theorem satM_view {W : World} {U : Nat → Prop} {m : Nat} {ss : List SV} {M' : List (Nat × Atom)} {vs : List Value} {slv : Nat → Option Addr × Nat × Nat} (h : ViewL W U 0 m ss M' vs slv) :
    ∃ E', denL E' ss = vs ∧ SatM (c0 W U) E' (fun k => k < m) (fun k => getM k M') W := by
  obtain ⟨_, h2, h3⟩ := h
  obtain ⟨h4, h5⟩ := h3 ⟨fun _ => 0, slv, fun _ => False, [], 0, []⟩ fun _ _ _ => rfl
  refine ⟨_, h4, Fr.refl _ _, Nat.zero_le _, by simp [c0], fun b hb => hb.elim, fun k A hk => ?_, fun k k' A A' hk hk' hne b hb => ?_⟩
  · obtain ⟨q1, q2, q3, q4⟩ := h5 k A (getM_mem' hk)
    refine ⟨q1.2, A.ok_mono (fun k hk => hk.2) q3, q4, fzn_of_noFoot q2 _, fun b hb => ?_⟩
    rw [q2] at hb
    cases hb
  · obtain ⟨_, q2, _⟩ := h5 k A (getM_mem' hk)
    rw [q2] at hb
    cases hb

/-- What a call hands over, in the caller's memory. -/
theorem satM_back {c : Ctx} {E : Env} {p : Nat → Prop} {g : Nat → Option Atom} {W W' : World} {U : Nat → Prop} (hM : SatM c E p g W) {key n : Nat} (hkk : ∀ q, q < n → ¬ p (key + q)) {E0 : Env} {M0 : List (Nat × Atom)} (hM0 : ∀ k A, (k, A) ∈ M0 → k < n) (hS : SatM (c0 W U) E0 (fun k => k < n) (fun k => getM k M0) W')
    (hA : ∀ k A, (k, A) ∈ M0 → ¬ A.isRnd ∧ A ≠ .pin ∧ A ≠ .mark ∧ ∀ cs t b, A ≠ .box cs t b) (hU : (∀ k A, (k, A) ∈ M0 → A.alone) ∨ ∀ b, b < W.heap.size → ¬ U b → still c E b) {sv : SV} (hok : sv.ok (fun k => k < n)) :
    ∃ E', Agree p E E' ∧ den E' (shS key sv) = den E0 sv ∧ (shS key sv).ok (fun k => p k ∨ key ≤ k ∧ k < key + n) ∧ SatM c E' (fun k => p k ∨ key ≤ k ∧ k < key + n) (gUpd g (someU (shM key M0))) W' := by
  have hfr : Fr [] W W' := hS.fr
  have hnp : ∀ k, key ≤ k → k < key + n → ¬ p k := fun k h1 h2 => by have := hkk (k - key) (by omega); rwa [show key + (k - key) = k from by omega] at this
  obtain ⟨E', hE'⟩ : ∃ E' : Env, E' = ⟨fun k => if key ≤ k ∧ k < key + n then E0.blk (k - key) else E.blk k, fun k => if key ≤ k ∧ k < key + n then E0.slv (k - key) else E.slv k, fun b => E.fz b ∨ E0.fz b, E.rb, E.ri, E.pb⟩ := ⟨_, rfl⟩
  have hnew' : ∀ k, k < n → E'.blk (key + k) = E0.blk k ∧ E'.slv (key + k) = E0.slv k := fun k hk => by
    have : key ≤ key + k ∧ key + k < key + n := ⟨by omega, by omega⟩
    rw [hE']
    simp [hk]
  have hold : Agree p E E' := fun k hk => by
    have : ¬ (key ≤ k ∧ k < key + n) := fun hh => hnp k hh.1 hh.2 hk
    rw [hE']
    simp [this]
  have hr : E'.rb = E.rb ∧ E'.ri = E.ri ∧ E'.pb = E.pb := by rw [hE']; exact ⟨rfl, rfl, rfl⟩
  have hfz : ∀ b, E'.fz b ↔ E.fz b ∨ E0.fz b := by rw [hE']; exact fun b => Iff.rfl
  have hfz0 : ∀ b, E0.fz b → W.heap.size ≤ b := fun b hb => (hS.fz b hb).1
  have hst : ∀ b, still c E b → still c E' b := fun b hb => hb.imp id fun h => (hfz b).2 (.inl h)
  have hst0 : (∀ b, b < W.heap.size → ¬ U b → still c E b) → ∀ b, still (c0 W U) E0 b → still c E' b := fun hh b hb => by
    rcases hb with ⟨h1, _, h3⟩ | h1
    · exact hst b (hh b h1 h3)
    · exact .inr ((hfz b).2 (.inr h1))
  have hsplit : ∀ k A, gUpd g (someU (shM key M0)) k = some A → (¬ (key ≤ k ∧ k < key + n) ∧ g k = some A) ∨ ∃ j A0, j < n ∧ k = key + j ∧ getM j M0 = some A0 ∧ A = shA key A0 := by
    intro k A hA
    by_cases hk : key ≤ k ∧ k < key + n
    · have e : k = key + (k - key) := by omega
      rw [e, gUpd_sh] at hA
      cases hg : getM (k - key) M0 with
      | none =>
        simp only [hg] at hA
        rw [← e] at hA
        exact absurd (hM.at_ k A hA).1 (hnp k hk.1 hk.2)
      | some A0 =>
        simp only [hg, Option.some.injEq] at hA
        exact .inr ⟨k - key, A0, by omega, e, hg, hA.symm⟩
    · rw [gUpd_sh_out M0 k hM0 (by omega)] at hA
      exact .inl ⟨hk, hA⟩
  have hfoot : ∀ j A0, j < n → getM j M0 = some A0 → footOf E' (key + j) (shA key A0) = footOf E0 j A0 := fun j A0 hj hg => by
    obtain ⟨h1, h2⟩ := hnew' j hj
    have := hA j A0 (getM_mem' hg)
    cases A0 <;> simp_all [footOf, shA, Atom.isRnd]
  have feet : ∀ j A0, getM j M0 = some A0 → ∀ b, b ∈ footOf E0 j A0 → W.heap.size ≤ b := by
    intro j A0 hg b hb
    obtain ⟨_, _, _, _, h4⟩ := hS.at_ j A0 hg
    exact (h4 b hb).2.resolve_left (hA j A0 (getM_mem' hg)).1
  refine ⟨E', hold, den_sh hnew' sv hok, ok_sh (fun k hk => .inr ⟨Nat.le_add_right _ _, Nat.add_lt_add_left hk key⟩) sv hok, hM.fr.step hfr (by simp), Nat.le_trans hM.size hfr.size, fun b o ho => ⟨(hfz b).2 (.inl (hM.pf b o ho).1), (hfr.block b (hM.fz b (hM.pf b o ho).1).2 (by simp)).trans (hM.pf b o ho).2⟩, fun b hb => ?_, fun k A hA' => ?_, fun k k' A A' hA1 hA2 hne b hb hb' => ?_⟩
  · rcases (hfz b).1 hb with hb | hb
    · exact ⟨(hM.fz b hb).1, Nat.lt_of_lt_of_le (hM.fz b hb).2 hfr.size⟩
    · exact ⟨Nat.le_trans hM.fr.size (hS.fz b hb).1, (hS.fz b hb).2⟩
  · rcases hsplit k A hA' with ⟨_, hg⟩ | ⟨j, A0, hj, rfl, hg, rfl⟩
    · obtain ⟨h1, h2, h3, h4, h5⟩ := hM.at_ k A hg
      refine ⟨.inl h1, A.ok_mono (fun k hk => .inl hk) h2, h3.mono hold hr h1 h2 hM.fr (hM.fr.step hfr (by simp)) hfr.size (fun b hb => hfr.block b (h5 b hb).1 (by simp)) (still_same hM hfr (by simp)) hst, A.fzn_same hold h1 ⟨fun _ => hr.1, hr.2.2⟩ (fun b hb => ?_) h4, fun b hb => ?_⟩
      · rw [hfz]
        exact ⟨fun h => h.resolve_right fun h => by have := hfz0 b h; have := (h5 b hb).1; omega, .inl⟩
      · rw [footOf_agree hold hr h1] at hb
        exact ⟨Nat.lt_of_lt_of_le (h5 b hb).1 hfr.size, (h5 b hb).2⟩
    · obtain ⟨h1, h2, h3, h4, h5⟩ := hS.at_ j A0 hg
      have hAj := hA j A0 (getM_mem' hg)
      refine ⟨.inr ⟨Nat.le_add_right _ _, Nat.add_lt_add_left hj key⟩, ?_, ?_, ?_, fun b hb => ?_⟩
      · cases A0 with
        | box cs t b => exact absurd rfl (hAj.2.2.2 cs t b)
        | rop cs => exact okL_sh (fun k hk => .inr ⟨Nat.le_add_right _ _, Nat.add_lt_add_left hk key⟩) cs h2
        | _ => trivial
      · cases A0 with
        | box cs t b => exact absurd rfl (hAj.2.2.2 cs t b)
        | own ty t l =>
          simp only [AtomAt, shA, den] at h3 ⊢
          rw [(hnew' j hj).2]
          obtain ⟨vs, ⟨q1, q2⟩, q3⟩ := h3
          refine ⟨vs, ⟨q1, ?_⟩, ?_⟩
          · rcases q2 with q2 | ⟨g, cap, cur, r1, r2, r3⟩
            · exact .inl q2
            · exact .inr ⟨g, cap, cur, r1, Nat.le_trans hM.fr.size r2, r3⟩
          · rcases hU with hU | hU
            · exact RepsL.closed (hU j _ (getM_mem' hg)) l vs q3
            · exact q3.mono (hst0 hU) fun _ _ => rfl
        | ro t l =>
          rcases hU with hU | hU
          · exact (hU j _ (getM_mem' hg)).elim
          · simp only [AtomAt, shA] at h3 ⊢
            rw [(hnew' j hj).2]
            exact h3.mono (hst0 hU) (fun _ _ => rfl) fun x vs hr => hr.mono (hst0 hU) fun _ _ => rfl
        | rop cs =>
          rcases hU with hU | hU
          · exact (hU j _ (getM_mem' hg)).elim
          · simp only [AtomAt, shA] at h3 ⊢
            rw [(hnew' j hj).2]
            obtain ⟨a, q1, q2, q3⟩ := h3
            refine ⟨a, q1, hst0 hU _ q2, fun i s hs => ?_⟩
            have e : ∀ cs : List SV, shL key cs = cs.map (shS key) := fun cs => by
              induction cs with
              | nil => rfl
              | cons x r ih => simp [shL, ih]
            rw [e, List.getElem?_map] at hs
            cases hs' : cs[i]? with
            | none => simp [hs'] at hs
            | some s0 =>
              simp only [hs', Option.map_some, Option.some.injEq] at hs
              subst hs
              rw [den_sh hnew' s0 ((okL_iff _ cs).1 h2 s0 (List.mem_of_getElem? hs'))]
              exact q3 i s0 hs'
        | mark => exact absurd rfl hAj.2.2.1
        | pin => exact absurd rfl hAj.2.1
        | rnd t l => exact absurd trivial hAj.1
      · cases A0 with
        | own ty t l =>
          simp only [shA, Atom.fzn, (hnew' j hj).2] at h4 ⊢
          intro a ha hf
          rcases (hfz _).1 hf with hf | hf
          · have := (hM.fz _ hf).2
            have := feet j _ hg a.block (by simp [footOf, ha])
            omega
          · exact h4 a ha hf
        | box cs t b => exact absurd rfl (hAj.2.2.2 cs t b)
        | mark => exact absurd rfl hAj.2.2.1
        | pin => exact absurd rfl hAj.2.1
        | rnd t l => exact absurd trivial hAj.1
        | _ => trivial
      · rw [hfoot j A0 hj hg] at hb
        exact ⟨(h5 b hb).1, .inr (Nat.le_trans hM.fr.size (feet j A0 hg b hb))⟩
  · rcases hsplit k A hA1 with ⟨_, hg⟩ | ⟨j, A0, hj, rfl, hg, rfl⟩
    · have hk := (hM.at_ k A hg).1
      rw [footOf_agree hold hr hk] at hb
      have hlt := ((hM.at_ k A hg).2.2.2.2 b hb).1
      rcases hsplit k' A' hA2 with ⟨_, hg'⟩ | ⟨j', A0', hj', rfl, hg', rfl⟩
      · rw [footOf_agree hold hr (hM.at_ k' A' hg').1] at hb'
        exact hM.dj k k' A A' hg hg' hne b hb hb'
      · rw [hfoot j' A0' hj' hg'] at hb'
        have := feet j' A0' hg' b hb'
        omega
    · rw [hfoot j A0 hj hg] at hb
      rcases hsplit k' A' hA2 with ⟨_, hg'⟩ | ⟨j', A0', hj', rfl, hg', rfl⟩
      · rw [footOf_agree hold hr (hM.at_ k' A' hg').1] at hb'
        have := ((hM.at_ k' A' hg').2.2.2.2 b hb').1
        have := feet j A0 hg b hb
        omega
      · rw [hfoot j' A0' hj' hg'] at hb'
        exact hS.dj j j' A0 A0' hg hg' (fun e => hne (by rw [e])) b hb hb'

mutual
theorem fill_kinds : ∀ (sk : Sk) (n : Nat) (l : List Leaf) (s : SV) (M : List (Nat × Atom)) (m : Nat) (r : List Leaf), sk.plain = true → sk.fill n l = some (s, M, m, r) → s.ok (fun k => n ≤ k ∧ k < m) ∧ ∀ k A, (k, A) ∈ M → ¬ A.isRnd ∧ A ≠ .pin ∧ A ≠ .mark ∧ ∀ cs t b, A ≠ .box cs t b
  | .int k, n, l, s, M, m, r, hp, h => by
    simp only [Sk.fill] at h
    split at h
    · split at h
      · split at h
        · simp only [Option.some.injEq, Prod.mk.injEq] at h
          obtain ⟨rfl, rfl, rfl, rfl⟩ := h
          exact ⟨trivial, by simp⟩
        · simp at h
      · simp at h
    · simp at h
  | .bool, n, l, s, M, m, r, hp, h => by
    simp only [Sk.fill] at h
    split at h
    · split at h
      · simp only [Option.some.injEq, Prod.mk.injEq] at h
        obtain ⟨rfl, rfl, rfl, rfl⟩ := h
        exact ⟨trivial, by simp⟩
      · simp at h
    · simp at h
  | .ro t, n, l, s, M, m, r, hp, h => by
    simp only [Sk.fill] at h
    split at h
    · split at h
      · simp only [Option.some.injEq, Prod.mk.injEq] at h
        obtain ⟨rfl, rfl, rfl, rfl⟩ := h
        refine ⟨⟨Nat.le_refl _, Nat.lt_succ_self _⟩, fun k A hk => ?_⟩
        simp only [List.mem_singleton, Prod.mk.injEq] at hk
        obtain ⟨rfl, rfl⟩ := hk
        simp [Atom.isRnd]
      · simp at h
    · simp at h
  | .own ty t, n, l, s, M, m, r, hp, h => by
    simp only [Sk.fill] at h
    split at h
    · split at h
      · simp only [Option.some.injEq, Prod.mk.injEq] at h
        obtain ⟨rfl, rfl, rfl, rfl⟩ := h
        refine ⟨⟨Nat.le_refl _, Nat.lt_succ_self _⟩, fun k A hk => ?_⟩
        simp only [List.mem_singleton, Prod.mk.injEq] at hk
        obtain ⟨rfl, rfl⟩ := hk
        simp [Atom.isRnd]
      · simp at h
    · simp at h
  | .box _ _ _, n, l, s, M, m, r, hp, h => by simp [Sk.plain] at hp
  | .ref _ _, n, l, s, M, m, r, hp, h => by simp [Sk.plain] at hp
  | .ptr cs off, n, l, s, M, m, r, hp, h => by
    simp only [Sk.plain] at hp
    simp only [Sk.fill] at h
    split at h
    · rename_i ss M' m' r' hf
      simp only [Option.some.injEq, Prod.mk.injEq] at h
      obtain ⟨rfl, rfl, rfl, rfl⟩ := h
      obtain ⟨h1, h2⟩ := fillL_kinds cs _ _ _ _ _ _ hp hf
      have := (fillL_keys cs _ _ _ _ _ _ hf).1
      refine ⟨⟨Nat.le_refl _, by omega⟩, fun k A hk => ?_⟩
      simp only [List.mem_cons, Prod.mk.injEq] at hk
      rcases hk with ⟨rfl, rfl⟩ | hk
      · simp [Atom.isRnd]
      · exact h2 k A hk
    · simp at h
  | .fn g a b, n, l, s, M, m, r, hp, h => by
    simp only [Sk.plain] at hp
    cases ha : plainL a with
    | false => simp [ha] at hp
    | true =>
      simp only [ha] at hp
      simp only [Sk.fill] at h
      split at h
      · rename_i ss M' m' r' hf
        split at h
        · rename_i qs M2 m2 r2 hf2
          simp only [Option.some.injEq, Prod.mk.injEq] at h
          obtain ⟨rfl, rfl, rfl, rfl⟩ := h
          obtain ⟨h1, h2⟩ := fillL_kinds a _ _ _ _ _ _ ha hf
          obtain ⟨h3, h4⟩ := fillL_kinds b _ _ _ _ _ _ hp hf2
          have := (fillL_keys a _ _ _ _ _ _ hf).1
          have := (fillL_keys b _ _ _ _ _ _ hf2).1
          refine ⟨⟨okL_mono (fun k hk => ⟨by omega, by omega⟩) ss h1, okL_mono (fun k hk => ⟨by omega, by omega⟩) qs h3⟩, fun k A hk => ?_⟩
          rw [List.mem_append] at hk
          rcases hk with hk | hk
          · exact h2 k A hk
          · exact h4 k A hk
        · simp at h
      · simp at h
  | .agg cs, n, l, s, M, m, r, hp, h => by
    simp only [Sk.plain] at hp
    simp only [Sk.fill] at h
    split at h
    · rename_i ss M' m' r' hf
      simp only [Option.some.injEq, Prod.mk.injEq] at h
      obtain ⟨rfl, rfl, rfl, rfl⟩ := h
      exact fillL_kinds cs _ _ _ _ _ _ hp hf
    · simp at h
  | .tup cs, n, l, s, M, m, r, hp, h => by
    simp only [Sk.plain] at hp
    simp only [Sk.fill] at h
    split at h
    · rename_i ss M' m' r' hf
      simp only [Option.some.injEq, Prod.mk.injEq] at h
      obtain ⟨rfl, rfl, rfl, rfl⟩ := h
      exact fillL_kinds cs _ _ _ _ _ _ hp hf
    · simp at h
  | .nilp, n, l, s, M, m, r, hp, h => by
    simp only [Sk.fill, Option.some.injEq, Prod.mk.injEq] at h
    obtain ⟨rfl, rfl, rfl, rfl⟩ := h
    exact ⟨trivial, by simp⟩
theorem fillL_kinds : ∀ (sks : List Sk) (n : Nat) (l : List Leaf) (ss : List SV) (M : List (Nat × Atom)) (m : Nat) (r : List Leaf), plainL sks = true → fillL sks n l = some (ss, M, m, r) → okL (fun k => n ≤ k ∧ k < m) ss ∧ ∀ k A, (k, A) ∈ M → ¬ A.isRnd ∧ A ≠ .pin ∧ A ≠ .mark ∧ ∀ cs t b, A ≠ .box cs t b
  | [], n, l, ss, M, m, r, hp, h => by
    simp only [fillL, Option.some.injEq, Prod.mk.injEq] at h
    obtain ⟨rfl, rfl, rfl, rfl⟩ := h
    exact ⟨trivial, by simp⟩
  | x :: q, n, l, ss, M, m, r, hp, h => by
    simp only [plainL] at hp
    cases hx : x.plain with
    | false => simp [hx] at hp
    | true =>
      simp only [hx] at hp
      simp only [fillL] at h
      split at h
      · rename_i s' M' m' r' hf
        split at h
        · rename_i qs M2 m2 r2 hf2
          simp only [Option.some.injEq, Prod.mk.injEq] at h
          obtain ⟨rfl, rfl, rfl, rfl⟩ := h
          obtain ⟨h1, h2⟩ := fill_kinds x _ _ _ _ _ _ hx hf
          obtain ⟨h3, h4⟩ := fillL_kinds q _ _ _ _ _ _ hp hf2
          have := (fill_keys x _ _ _ _ _ _ hf).1
          have := (fillL_keys q _ _ _ _ _ _ hf2).1
          refine ⟨⟨ok_mono (fun k hk => ⟨by omega, by omega⟩) s' h1, okL_mono (fun k hk => ⟨by omega, by omega⟩) qs h3⟩, fun k A hk => ?_⟩
          rw [List.mem_append] at hk
          rcases hk with hk | hk
          · exact h2 k A hk
          · exact h4 k A hk
        · simp at h
      · simp at h
end
section
variable {tab : Nat → Option TI} {P : Program} {c : Ctx} {key : Nat} {fr : List (Nat × SV)} {M : List (Nat × Atom)} {K : Res → Prop} {o : Oper}

/-- A call of a function of which something is told. -/
theorem snd_callV {R : Type} {V : VE} {ret : R} (hO : ∀ s, s ∈ V.O → SpecOK P s) {cl : Call} (ho : o.op = .call cl) {f : Operand} (hc : cl.callee = .value f) {g : Nat} {args : List SV} {sks : List Sk} {ls : List Leaf} {K : Res → Tree R}
    {Mr : List (Nat × Atom)} {rd : List Nat} {full : Bool} (hres : ∀ k A, getM k Mr = some A → getM k M = some A ∧ (full = true ∨ k ∈ rd))
    (h : (callV V Mr key g args sks ls rd full K).eval = some ret) (hfresh : ∀ k, key ≤ k → getM k M = none)
    (hops : ∀ (E : Env) (p : Nat → Prop) (a : Act), (∀ x, x ∈ o.op.operands.toList → ∀ s, ev fr x = some s → s.ok p ∧ a.eval x = den E s) → okL p args ∧ ∃ x y : List Value, a.eval f = .func (.func g) x.toArray y.toArray ∧ x ++ cl.args.toList.map a.eval ++ y = denL E args)
    (hview : ∀ (E : Env) (p : Nat → Prop) (W : World) (U : Nat → Prop), SatM c E p (fun k => getM k Mr) W → (∃ d, ModeL c E Mr W U d args) → ∃ ss' M' m slv, fillL sks 0 (ls ++ []) = some (ss', M', m, []) ∧ ViewL W U 0 m ss' M' (denL E args) slv) :
    Snd P c key fr M o fun r => (K r).eval = some ret := by
  simp only [callV] at h
  split at h
  · simp [Tree.eval] at h
  · rename_i s hs
    obtain ⟨hsO, hsg, hsa⟩ := findO_mem hs
    have hsp := hO s hsO
    obtain ⟨sg, sargs, sres, sf⟩ := s
    simp only at hsg hsa
    subst hsg hsa
    cases hx : ofL (tysL sargs) ls with
    | none => simp [hx, Tree.eval] at h
    | some x =>
      have hcase : refsL sres = true → stillL Mr 100 args = true := by
        intro hr
        cases hsl : stillL Mr 100 args with
        | true => rfl
        | false => simp [hx, hr, hsl, Tree.eval] at h
      have h : (Tree.bind (sf x) (dispR (fun sk ls => match sk.fill key ls with
          | some (sv, M', n, []) => match Nat.ble (n - key) 8 with
            | true => K ⟨sv, someU M', n - key, rd, full⟩
            | false => .fail
          | _ => .fail) sres)).eval = some ret := by
        cases hr : refsL sres with
        | false => simp only [hx, hr] at h; exact h
        | true => simp only [hx, hr, hcase hr] at h; exact h
      simp only [Tree.eval] at h
      obtain ⟨r, hr, h⟩ := Option.bind_eq_some_iff.1 h
      rw [dispR_eval] at h
      have hxl := toL_ofL _ _ _ hx
      split at h
      · rename_i sv M' n hfill
        cases h8 : Nat.ble (n - key) 8 with
        | false => simp [h8, Tree.eval] at h
        | true =>
          simp only [h8] at h
          have h8' := Nat.le_of_ble_eq_true h8
          -- the mode
          have hmode : ∀ (E : Env) (W : World), ∃ U : Nat → Prop, (∃ d, ModeL c E Mr W U d args) ∧ ((∀ k A, (k, A) ∈ M' → A.alone) ∨ ∀ b, b < W.heap.size → ¬ U b → Go.VM.still c E b) ∧ (refsL sres = false → ∀ b, ¬ U b) := by
            intro E W
            cases hrf : refsL sres with
            | false => exact ⟨fun _ => False, ⟨0, .inl fun _ _ h => h⟩, .inl (fill_alone _ _ _ _ _ _ _ (told_refs _ r hrf) hfill), fun _ _ h => h⟩
            | true =>
              have hst := hcase hrf
              exact ⟨fun b => ¬ Go.VM.still c E b, ⟨100, .inr ⟨hst, fun b hb hn => hn hb⟩⟩, .inr fun b _ hb => Classical.not_not.1 hb, fun h => by cases h⟩
          obtain ⟨hkn, hkeys⟩ := fill_keys _ _ _ _ _ _ _ hfill
          refine ⟨⟨sv, someU M', n - key, rd, full⟩, ⟨h8', fun E p a W g' hM hg hkk hop next Q hn' => ?_⟩, fun k hk => ?_, h⟩
          · obtain ⟨hok, h2⟩ := hops E p a hop
            have hgM : SatM c E p (fun k => getM k Mr) W := hM.getter fun k A hA => by
              obtain ⟨h1, h2⟩ := hres k A hA
              have hlt : ¬ key ≤ k := fun hle => by rw [hfresh k hle] at h1; cases h1
              rw [hg k (h2.imp id .inl) (fun hh => hlt hh.1)]
              exact h1
            obtain ⟨U, hd, hU, _⟩ := hmode E W
            obtain ⟨ss', Ma, m, slv, hf, hv⟩ := hview E p W U hgM hd
            rw [List.append_nil] at hf
            obtain ⟨Ea, ha1, ha2⟩ := satM_view hv
            rw [← hxl] at hf
            have hcall := hsp.call x r hr W U Ea ss' Ma m hf ha2
            rw [ha1] at hcall
            refine call_wp ho hc hsp.enters h2 (hcall.mono ?_)
            rintro e W' ⟨sv0, M0, n0, E0, q1, rfl, q3, q4⟩
            refine ⟨_, rfl, ?_⟩
            have hsh := fill_shift key _ _ _ _ _ _ _ (told_plain _ r hsp.plain) q1
            rw [Nat.add_zero, hfill] at hsh
            simp only [Option.some.injEq, Prod.mk.injEq, and_true] at hsh
            obtain ⟨rfl, rfl, rfl⟩ := hsh
            obtain ⟨k1, k2⟩ := fill_kinds _ _ _ _ _ _ _ (told_plain _ r hsp.plain) q1
            have k3 := (fill_keys _ _ _ _ _ _ _ q1).2
            have hU' : (∀ k A, (k, A) ∈ M0 → A.alone) ∨ ∀ b, b < W.heap.size → ¬ U b → Go.VM.still c E b := by
              cases hrf : refsL sres with
              | false => exact .inl (fill_alone _ _ _ _ _ _ _ (told_refs _ r hrf) q1)
              | true =>
                rcases hU with hU | hU
                · refine .inl fun k A hk => ?_
                  have := hU _ _ (mem_shM hk)
                  cases A <;> exact this
                · exact .inr hU
            obtain ⟨E', e1, e2, e3, e4⟩ := satM_back hM (n := n0) (fun q hq => hkk q (by omega)) (fun k A hk => (k3 k A hk).2) q4 k2 hU' q3
            rw [← e2]
            have hnk : key + n0 - key = n0 := by omega
            refine hn' E' W' e1 ?_ ?_
            · simpa only [hnk] using e4
            · simpa only [hnk] using e3
          · have : ∀ (M' : List (Nat × Atom)) k, k ∈ keysU (someU M') → ∃ A, (k, A) ∈ M' := by
              intro M'
              induction M' with
              | nil => intro k hk; simp [someU, keysU] at hk
              | cons y r ih =>
                intro k hk
                obtain ⟨j, B⟩ := y
                simp only [someU, keysU, List.mem_cons] at hk
                rcases hk with rfl | hk
                · exact ⟨B, by simp⟩
                · obtain ⟨A, hA⟩ := ih k hk
                  exact ⟨A, by simp [hA]⟩
            obtain ⟨A, hA⟩ := this M' k hk
            have := hkeys k A hA
            show k < key + 8
            omega
      · simp [Tree.eval] at h
end
end Go.VM

/-
Calls: as the code makes them.
-/
set_option linter.unusedVariables false
set_option linter.unusedSimpArgs false
namespace Go.VM
open Go.RowKit
section
variable {tab : Nat → Option TI} {P : Program} {c : Ctx} {key : Nat} {fr : List (Nat × SV)} {M : List (Nat × Atom)} {K : Res → Prop} {o : Oper}

theorem ModeL.append {E : Env} {W : World} {U : Nat → Prop} {d : Nat} {l l' : List SV} (h : ModeL c E M W U d (l ++ l')) : ModeL c E M W U d l ∧ ModeL c E M W U d l' := by
  rcases h with h | ⟨h, hU⟩
  · exact ⟨.inl h, .inl h⟩
  · obtain ⟨h1, h2⟩ := stillL_mono d l l' h
    exact ⟨.inr ⟨h1, hU⟩, .inr ⟨h2, hU⟩⟩
theorem stillL_vals (d : Nat) : ∀ xs : List Value, stillL M (d + xs.length + 2) (vals xs) = true
  | [] => by simp [vals, stillL]
  | x :: r => by
    have := stillL_vals d r
    simp only [vals, List.length_cons]
    rw [show d + (r.length + 1) + 2 = (d + r.length + 2) + 1 from by omega, stillL]
    have e : (SV.v x).still M (d + r.length + 2) = true := by rw [show d + r.length + 2 = (d + r.length + 1) + 1 from by omega]; simp [SV.still]
    simp only [e]
    exact this

theorem view_agg {E : Env} {p : Nat → Prop} {W : World} (hM : SatM c E p (fun k => getM k M) W) {U : Nat → Prop} {s : SV} (hs : s.isAgg = true) {cts : List (Option Ty)} {x : List Sk} {l : List Leaf} (h : skL tab M 100 cts s.cells = some (x, l)) {d : Nat} (hm : Mode c E M W U d s) (n : Nat) (rest : List Leaf) :
    ∃ s' M' m slv, (Sk.agg x).fill n (l ++ rest) = some (s', M', m, rest) ∧ View W U n m s' M' (den E s) slv := by
  have hml : ∃ dm, ModeL c E M W U dm s.cells := by
    rcases hm with hm | ⟨hst, hU⟩
    · exact ⟨0, .inl hm⟩
    · cases s with
      | agg cs =>
        cases d with
        | zero => simp [SV.still] at hst
        | succ d => exact ⟨d, .inr ⟨by rw [SV.still] at hst; exact hst, hU⟩⟩
      | v y =>
        cases y with
        | agg xs => exact ⟨_, .inr ⟨stillL_vals 0 xs.toList, hU⟩⟩
        | _ => simp [SV.isAgg] at hs
      | _ => simp [SV.isAgg] at hs
  obtain ⟨ss', M', m, slv, h1, h2, h3, h4⟩ := view_ofL hM 100 cts s.cells x l h hml n rest
  refine ⟨.agg ss', M', m, slv, by simp [Sk.fill, h1], h2, h3, fun E' hE => ?_⟩
  obtain ⟨q1, q2⟩ := h4 E' hE
  refine ⟨?_, q2⟩
  simp only [den, q1]
  cases s with
  | agg cs => rfl
  | v y =>
    cases y with
    | agg xs => simp [SV.cells, denL_vals, den]
    | _ => simp [SV.isAgg] at hs
  | _ => simp [SV.isAgg] at hs

theorem view_args {E : Env} {p : Nat → Prop} {W : World} (hM : SatM c E p (fun k => getM k M) W) {U : Nat → Prop} : ∀ (ss : List SV) (ts : List Nat) (sks : List Sk) (ls : List Leaf), skArgs tab M ts ss = some (sks, ls) → (∃ dm, ModeL c E M W U dm ss) → ∀ (n : Nat) (rest : List Leaf),
    ∃ ss' M' m slv, fillL sks n (ls ++ rest) = some (ss', M', m, rest) ∧ ViewL W U n m ss' M' (denL E ss) slv
  | [], ts, sks, ls, h, _, n, rest => by
    unfold skArgs at h
    simp only [Option.some.injEq, Prod.mk.injEq] at h
    obtain ⟨rfl, rfl⟩ := h
    exact ⟨[], [], n, fun _ => (none, 0, 0), by simp [fillL], viewL_nil W U n _⟩
  | s :: r, ts, sks, ls, h, ⟨dm, hm⟩, n, rest => by
    cases ts with
    | nil => unfold skArgs at h; simp at h
    | cons t ts =>
      unfold skArgs at h
      simp only at h
      split at h
      · simp at h
      · rename_i x l h1
        split at h
        · simp at h
        · rename_i xs l' h2
          simp only [Option.some.injEq, Prod.mk.injEq] at h
          obtain ⟨rfl, rfl⟩ := h
          obtain ⟨dm', hm1, hm2⟩ := hm.cons
          have hone : ∃ s' M' m slv, x.fill n (l ++ (l' ++ rest)) = some (s', M', m, l' ++ rest) ∧ View W U n m s' M' (den E s) slv := by
            cases ht : tab t with
            | none => simp [ht] at h1
            | some i =>
              simp only [ht] at h1
              cases ha : i.agg with
              | true =>
                simp only [ha] at h1
                cases hs : s.isAgg with
                | false => simp [hs] at h1
                | true =>
                  simp only [hs] at h1
                  split at h1
                  · rename_i x' l0 hx
                    simp only [Option.some.injEq, Prod.mk.injEq] at h1
                    obtain ⟨rfl, rfl⟩ := h1
                    exact view_agg hM hs hx hm1 n _
                  · simp at h1
              | false =>
                simp only [ha] at h1
                exact view_of hM 100 _ s x l h1 ⟨dm', hm1⟩ n _
          obtain ⟨s', M1, m1, s1, q1, q2⟩ := hone
          obtain ⟨ss', M2, m2, s2, q3, q4⟩ := view_args hM r ts xs l' h2 ⟨dm', hm2⟩ m1 rest
          exact ⟨s' :: ss', M1 ++ M2, m2, _, by simp [fillL, q1, q3], viewL_cons q2 q4⟩

/-- A call of a function by its name. -/
theorem snd_callF {R : Type} {V : VE} {ret : R} (hO : ∀ s, s ∈ V.O → SpecOK P s) {cl : Call} (ho : o.op = .call cl) {f : Operand} (hc : cl.callee = .value f) {g : Nat} {a b : Array Value} (hf : ev fr f = some (.v (.func (.func g) a b))) (ha : a.toList = []) (hb : b.toList = []) {args : List SV} (hargs : evL fr cl.args.toList = some args)
    {Mr : List (Nat × Atom)} {rd : List Nat} {full : Bool} (hres : ∀ k A, getM k Mr = some A → getM k M = some A ∧ (full = true ∨ k ∈ rd))
    {sks : List Sk} {ls : List Leaf} (hsk : skArgs V.tab Mr cl.argTypes.toList args = some (sks, ls)) {K : Res → Tree R}
    (h : (callV V Mr key g args sks ls rd full K).eval = some ret) (hfresh : ∀ k, key ≤ k → getM k M = none) : Snd P c key fr M o fun r => (K r).eval = some ret := by
  refine snd_callV hO ho hc hres h hfresh (fun E p act hop => ?_) (fun E p W U hM hd => view_args hM _ _ _ _ hsk hd 0 [])
  obtain ⟨h1, h2⟩ := evL_spec (E := E) (p := p) (ρ := act.eval) _ _ hargs (fun x hx => hop x (by rw [ho]; simp [Op.operands, Call.operands, hc]; exact .inr (by simpa using hx)))
  have hfo := (hop f (by rw [ho]; simp [Op.operands, Call.operands, hc]) _ hf).2
  have ea : a = #[] := by rw [← Array.toArray_toList (xs := a), ha]
  have eb : b = #[] := by rw [← Array.toArray_toList (xs := b), hb]
  subst ea eb
  exact ⟨h1, [], [], by rw [hfo, den], by simpa using h2⟩

/-- A call of a closure. -/
theorem snd_callC {R : Type} {V : VE} {ret : R} (hO : ∀ s, s ∈ V.O → SpecOK P s) {cl : Call} (ho : o.op = .call cl) {f : Operand} (hc : cl.callee = .value f) {g : Nat} {a b : List SV} (hf : ev fr f = some (.fn (.func g) a b)) {args : List SV} (hargs : evL fr cl.args.toList = some args)
    {Mr : List (Nat × Atom)} {rd : List Nat} {full : Bool} (hres : ∀ k A, getM k Mr = some A → getM k M = some A ∧ (full = true ∨ k ∈ rd))
    {x y z : List Sk} {l q r : List Leaf} (hx : skExtra V.tab Mr a = some (x, l)) (hy : skArgs V.tab Mr cl.argTypes.toList args = some (y, q)) (hz : skExtra V.tab Mr b = some (z, r)) {K : Res → Tree R}
    (h : (callV V Mr key g (a ++ args ++ b) (x ++ y ++ z) (l ++ q ++ r) rd full K).eval = some ret) (hfresh : ∀ k, key ≤ k → getM k M = none) : Snd P c key fr M o fun r => (K r).eval = some ret := by
  refine snd_callV hO ho hc hres h hfresh (fun E p act hop => ?_) (fun E p W U hM ⟨d, hd⟩ => ?_)
  · obtain ⟨h1, h2⟩ := evL_spec (E := E) (p := p) (ρ := act.eval) _ _ hargs (fun x hx => hop x (by rw [ho]; simp [Op.operands, Call.operands, hc]; exact .inr (by simpa using hx)))
    obtain ⟨h6, h7⟩ := hop f (by rw [ho]; simp [Op.operands, Call.operands, hc]) _ hf
    refine ⟨(okL_iff p _).2 fun s hs => ?_, denL E a, denL E b, by rw [h7, den], by rw [h2, denL_append, denL_append]⟩
    simp only [List.mem_append] at hs
    rcases hs with (hs | hs) | hs
    · exact (okL_iff p a).1 h6.1 s hs
    · exact (okL_iff p args).1 h1 s hs
    · exact (okL_iff p b).1 h6.2 s hs
  · obtain ⟨hd1, hd3⟩ := hd.append
    obtain ⟨hd1, hd2⟩ := hd1.append
    obtain ⟨s1, M1, m1, v1, f1, w1⟩ := view_ofL (tab := V.tab) hM 100 [] a x l hx ⟨d, hd1⟩ 0 (q ++ (r ++ []))
    obtain ⟨s2, M2, m2, v2, f2, w2⟩ := view_args hM args _ y q hy ⟨d, hd2⟩ m1 (r ++ [])
    obtain ⟨s3, M3, m3, v3, f3, w3⟩ := view_ofL (tab := V.tab) hM 100 [] b z r hz ⟨d, hd3⟩ m2 []
    have f12 := fillL_append _ _ _ _ _ _ _ _ _ _ _ _ f1 f2
    have f123 := fillL_append _ _ _ _ _ _ _ _ _ _ _ _ f12 f3
    rw [denL_append, denL_append]
    exact ⟨_, _, _, _, by rw [show l ++ q ++ r ++ [] = l ++ (q ++ (r ++ [])) from by simp [List.append_assoc]]; exact f123, viewL_append (viewL_append w1 w2) w3⟩

/-- What is frozen on the way, is of atoms that can be. -/
theorem fz_can (M : List (Nat × Atom)) : ∀ (d : Nat), (∀ (s : SV) j A, (j, A) ∈ fzS M d s → ∃ B, getM j M = some B ∧ B.canFz ∧ A = frzA B) ∧ (∀ (l : List SV) j A, (j, A) ∈ fzL M d l → ∃ B, getM j M = some B ∧ B.canFz ∧ A = frzA B)
  | 0 => ⟨fun s j A h => by simp [fzS] at h, fun l j A h => by simp [fzL] at h⟩
  | d + 1 => by
    obtain ⟨h1, h2⟩ := fz_can M d
    refine ⟨fun s j A h => ?_, fun l j A h => ?_⟩
    · cases s with
      | own i =>
        simp only [fzS] at h
        split at h
        · rename_i hi
          simp only [List.mem_singleton, Prod.mk.injEq] at h
          obtain ⟨rfl, rfl⟩ := h
          exact ⟨_, hi, trivial, rfl⟩
        · cases h
      | sl i o n q =>
        simp only [fzS] at h
        split at h
        · rename_i hi
          simp only [List.mem_cons, Prod.mk.injEq] at h
          rcases h with ⟨rfl, rfl⟩ | h
          · exact ⟨_, hi, trivial, rfl⟩
          · exact h2 _ j A h
        · cases h
      | ptr i o =>
        simp only [fzS] at h
        split at h
        · rename_i hi
          simp only [List.mem_cons, Prod.mk.injEq] at h
          rcases h with ⟨rfl, rfl⟩ | h
          · exact ⟨_, hi, trivial, rfl⟩
          · exact h2 _ j A h
        · cases h
      | eptr i x k o =>
        simp only [fzS] at h
        split at h
        · exact h2 _ j A h
        · cases h
      | fn f a b =>
        simp only [fzS, List.mem_append] at h
        exact h.elim (h2 _ j A) (h2 _ j A)
      | agg cs => exact h2 _ j A (by simpa only [fzS] using h)
      | tup cs => exact h2 _ j A (by simpa only [fzS] using h)
      | _ => simp [fzS] at h
    · cases l with
      | nil => simp [fzL] at h
      | cons s r =>
        simp only [fzL, List.mem_append] at h
        exact h.elim (h1 s j A) (h2 r j A)

theorem keysU_some {l : List (Nat × Atom)} {k : Nat} (h : k ∈ keysU (someU l)) : ∃ A, (k, A) ∈ l := by
  induction l with
  | nil => simp [someU, keysU] at h
  | cons y r ih =>
    obtain ⟨j, B⟩ := y
    simp only [someU, keysU, List.mem_cons] at h
    rcases h with rfl | h
    · exact ⟨B, by simp⟩
    · obtain ⟨A, hA⟩ := ih h
      exact ⟨A, by simp [hA]⟩

theorem gUpd_outZ {g : Nat → Option Atom} : ∀ (u : List (Nat × Option Atom)) (k : Nat), k ∉ keysU u → gUpd g u k = g k
  | [], k, h => rfl
  | (j, A) :: r, k, h => by
    simp only [keysU, List.mem_cons, not_or] at h
    simp only [gUpd, if_neg h.1]
    exact gUpd_outZ r k h.2

/-- First something is frozen. -/
theorem snd_frz {fz : List (Nat × Atom)} (hfz : ∀ j A, (j, A) ∈ fz → ∃ B, getM j M = some B ∧ B.canFz ∧ A = frzA B) (hfresh : ∀ k, key ≤ k → getM k M = none) {Q : Res → Prop}
    (h : Snd P c key fr (updM M (someU fz)) o fun r => Q ⟨r.sv, r.upd ++ someU fz, r.nk, r.rd, true⟩) : Snd P c key fr M o Q := by
  obtain ⟨r, ⟨h8, hop⟩, hk, hq⟩ := h
  refine ⟨⟨r.sv, r.upd ++ someU fz, r.nk, r.rd, true⟩, ⟨h8, fun E p a W g' hM hg hkk hops next Q' hn' => ?_⟩, fun k hk' => ?_, hq⟩
  · have hgall : ∀ k, g' k = getM k M := by
      intro k
      by_cases hr : key ≤ k ∧ k < key + 8
      · rw [hfresh k hr.1]
        cases hgk : g' k with
        | none => rfl
        | some A =>
          have := (hM.at_ k A hgk).1
          exact absurd this (by have := hkk (k - key) (by omega); rwa [show key + (k - key) = k from by omega] at this)
      · exact hg k (.inl rfl) hr
    have hgM : SatM c E p (fun k => getM k M) W := hM.getter fun k A hA => by rw [hgall k]; exact hA
    obtain ⟨Ef, ⟨e1, e2, _⟩, _, _, _, hMf⟩ := hgM.frz fz E _ hfz
    have hEf : Agree p E Ef := fun k _ => by rw [e1, e2]; exact ⟨rfl, rfl⟩
    have hM2 : SatM c Ef p (fun k => getM k (updM M (someU fz))) W := hMf.getter fun k A hA => by rw [updM_get] at hA; exact hA
    refine hop Ef p a W _ hM2 (fun _ _ _ => rfl) hkk (fun x hx s hs => ?_) next Q' fun E' W' ha hM' hok => ?_
    · obtain ⟨q1, q2⟩ := hops x hx s hs
      exact ⟨q1, by rw [den_agree hEf s q1]; exact q2⟩
    · refine hn' E' W' (hEf.trans ha fun _ h => h) (hM'.getter fun k A hA => ?_) hok
      rw [gUpd_app] at hA
      rw [← hA]
      have e : (fun k => getM k (updM M (someU fz))) = gUpd g' (someU fz) := by
        funext k
        rw [updM_get]
        exact congrArg (fun q => gUpd q (someU fz) k) (funext fun k => (hgall k).symm)
      rw [e]
  · have : ∀ (u u' : List (Nat × Option Atom)), k ∈ keysU (u ++ u') → k ∈ keysU u ∨ k ∈ keysU u' := by
      intro u u'
      induction u with
      | nil => exact .inr
      | cons y r ih =>
        obtain ⟨j, B⟩ := y
        simp only [List.cons_append, keysU, List.mem_cons]
        rintro (h | h)
        · exact .inl (.inl h)
        · exact (ih h).imp .inr id
    rcases this _ _ hk' with h | h
    · exact hk k h
    · obtain ⟨A, hA⟩ := keysU_some h
      obtain ⟨B, hB, _⟩ := hfz k A hA
      have : ¬ key ≤ k := fun hle => by rw [hfresh k hle] at hB; cases hB
      omega

theorem memN_mem {k : Nat} : ∀ {l : List Nat}, memN k l = true → k ∈ l
  | [], h => by cases h
  | x :: r, h => by
    simp only [memN] at h
    split at h
    · rename_i hx
      rw [Nat.eq_of_beq_eq_true hx]
      simp
    · exact List.mem_cons_of_mem _ (memN_mem h)
theorem restr_get {ks : List Nat} {k : Nat} {A : Atom} : ∀ {M : List (Nat × Atom)}, getM k (restrM ks M) = some A → getM k M = some A ∧ k ∈ ks
  | [], h => by simp [restrM, getM] at h
  | (j, B) :: r, h => by
    simp only [restrM] at h
    split at h
    · rename_i hj
      simp only [getM] at h ⊢
      split at h
      · rename_i hb
        have := Nat.eq_of_beq_eq_true hb
        subst this
        exact ⟨h, memN_mem hj⟩
      · exact restr_get h
    · rename_i hj
      obtain ⟨h1, h2⟩ := restr_get h
      refine ⟨?_, h2⟩
      simp only [getM]
      split
      · rename_i hb
        have := Nat.eq_of_beq_eq_true hb
        subst this
        have : memN j ks = true := by
          have : ∀ l : List Nat, j ∈ l → memN j l = true := by
            intro l
            induction l with
            | nil => simp
            | cons x r ih =>
              intro h
              simp only [memN]
              split
              · rfl
              · rename_i hx
                rcases List.mem_cons.1 h with rfl | h
                · rw [show Nat.beq j j = true from Nat.beq_refl j] at hx; cases hx
                · exact ih h
          exact this ks h2
        rw [this] at hj
        cases hj
      · exact h1
theorem snd_callZ {R : Type} {V : VE} {ret : R} {g : Nat} {args : List SV} {mk : List (Nat × Atom) → Option (List Sk × List Leaf)} {K : Res → Tree R} (h : (callZ V M key g args mk K).eval = some ret) (hfresh : ∀ k, key ≤ k → getM k M = none)
    (hc : ∀ (M Mr : List (Nat × Atom)) (rd : List Nat) (full : Bool) (sks : List Sk) (ls : List Leaf) (K : Res → Tree R), (∀ k A, getM k Mr = some A → getM k M = some A ∧ (full = true ∨ k ∈ rd)) → mk Mr = some (sks, ls) → (∀ k, key ≤ k → getM k M = none) → (callV V Mr key g args sks ls rd full K).eval = some ret → Snd P c key fr M o fun r => (K r).eval = some ret) : Snd P c key fr M o fun r => (K r).eval = some ret := by
  have hr : ∀ k A, getM k (restrM (rchL M 100 args) M) = some A → getM k M = some A ∧ (false = true ∨ k ∈ rchL M 100 args) := fun k A hA => ⟨(restr_get hA).1, .inr (restr_get hA).2⟩
  simp only [callZ] at h
  split at h
  · simp [Tree.eval] at h
  rename_i sks ls hmk
  split at h
  · exact hc M _ _ _ sks ls K hr hmk hfresh h
  split at h
  · split at h
    · rename_i sks' ls' hmk'
      have hcan := (fz_can M 100).2 args
      refine snd_frz hcan hfresh (hc _ _ _ _ sks' ls' _ (fun k A hA => ⟨hA, .inl rfl⟩) hmk' (fun k hk => ?_) h)
      rw [updM_get, gUpd_outZ]
      · exact hfresh k hk
      · intro hm
        obtain ⟨A, hA⟩ := keysU_some hm
        obtain ⟨B, hB, _⟩ := hcan k A hA
        rw [hfresh k hk] at hB
        cases hB
    · simp [Tree.eval] at h
  · exact hc M _ _ _ sks ls K hr hmk hfresh h
end
end Go.VM

/-
The operations are sound, first part.
-/
set_option linter.unusedVariables false
set_option linter.unusedSimpArgs false
namespace Go.VM
open Go.RowKit
section
variable {R : Type} {V : VE} {P : Program} {c : Ctx} {key : Nat} {fr : List (Nat × SV)} {M : List (Nat × Atom)} {K : Res → Tree R} {o : Oper} {ret : R}

theorem fail_eval {R : Type} {ret : R} (h : (Tree.fail : Tree R).eval = some ret) : False := by simp [Tree.eval] at h

/-- More keys may be said to be read. -/
theorem OpOK.rd {s : SV} (rd : List Nat) (h : OpOK P c key o fr M (.val s)) : OpOK P c key o fr M ⟨s, [], 0, rd, false⟩ :=
  ⟨h.1, fun E p a W g hM hg hk hop next Q hn => h.2 E p a W g hM (fun k hk' => hg k (by simp [Res.val, keysU] at hk')) hk hop next Q hn⟩

theorem Snd.mk {Q : Res → Prop} {r : Res} (h : OpOK P c key o fr M r) (hu : ∀ k, k ∈ keysU r.upd → k < key + 8) (hq : Q r) : Snd P c key fr M o Q := ⟨r, h, hu, hq⟩
theorem Snd.val {Q : Res → Prop} {s : SV} {rd : List Nat} (h : OpOK P c key o fr M ⟨s, [], 0, rd, false⟩) (hq : Q ⟨s, [], 0, rd, false⟩) : Snd P c key fr M o Q := ⟨_, h, by simp [keysU], hq⟩

/-- Keys in use lie below. -/
theorem lt_key (hfresh : ∀ k, key ≤ k → getM k M = none) {j : Nat} {A : Atom} (h : getM j M = some A) : j < key := by
  rcases Nat.lt_or_ge j key with h1 | h1
  · exact h1
  · rw [hfresh j h1] at h; cases h

theorem es_move {x : Operand} (ho : o.op = .move x ∨ o.op = .assign x) (h : (match ev fr x with
    | some s => K (.val s)
    | none => .fail).eval = some ret) : Snd P c key fr M o fun r => (K r).eval = some ret := by
  split at h
  · rename_i s hs
    exact .val (snd_move ho hs) h
  · exact (fail_eval h).elim

theorem es_pick {x a b : Operand} (ho : o.op = .pick x a b) (h : (vmOp V key fr M (.pick x a b) K).eval = some ret) : Snd P c key fr M o fun r => (K r).eval = some ret := by
  simp only [vmOp] at h
  split at h
  · rename_i t hx
    split at h
    · rename_i s s' ha hb
      rcases Tree.ite_eval h with ⟨rfl, h⟩ | ⟨rfl, h⟩
      · exact .val (snd_pick ho hx (by simpa using ha)) h
      · exact .val (snd_pick ho hx (by simpa using hb)) h
    · exact (fail_eval h).elim
  · exact (fail_eval h).elim

theorem es_alloc (hT : TabOK V.tab P) {t : Nat} (ho : o.op = .alloc t) (h : (vmOp V key fr M (.alloc t) K).eval = some ret) : Snd P c key fr M o fun r => (K r).eval = some ret := by
  simp only [vmOp] at h
  split at h
  · rename_i i hi
    exact ⟨_, snd_alloc hT ho hi, by simp [keysU], h⟩
  · exact (fail_eval h).elim
theorem es_box {t : Nat} {x : Operand} (ho : o.op = .box t x) (h : (vmOp V key fr M (.box t x) K).eval = some ret) : Snd P c key fr M o fun r => (K r).eval = some ret := by
  simp only [vmOp] at h
  split at h
  · rename_i s hs
    exact ⟨_, snd_box ho hs (fun E => cells_den' E s) (fun p => cells_ok s), by simp [keysU], h⟩
  · exact (fail_eval h).elim

theorem row_base {c : Ctx} {cs : List SV} {T : Ty} {k o' : Nat} {E : Env} {p : Nat → Prop} {W : World} {g : Nat → Option Atom} (hM : SatM c E p g W) {rds : List Nat} (hg : ∀ q, q ∈ rds → ¬ (key ≤ q ∧ q < key + 8) → g q = getM q M) (hk : ∀ q, q < 8 → ¬ p (key + q)) (hok : okL p cs) (hr : ∀ q, q ∈ ownK cs → q ∈ rds) {n z : Nat} {y : T.den} (hy : (rowUp M T k n (dropN o' cs))[z]? = some y) :
    ∃ vs, Reps (still c E) W T y vs ∧ ∀ m u, vs[m]? = some u → (denL E cs)[o' + (z * k + m)]? = some u := by
  obtain ⟨vs, h1, h2⟩ := rowUp_rep (M := M) hM n (dropN o' cs) (get_own (key := key) hg hk (by rw [dropN_eq]; exact okL_sub (fun s hs => List.mem_of_mem_drop hs) hok) (fun q hq => by rw [dropN_eq] at hq; exact hr q (ownK_drop _ _ _ hq))) z y hy
  refine ⟨vs, h1, fun m u hm => ?_⟩
  have := h2 m u hm
  rwa [dropN_eq, denL_drop, List.getElem?_drop] at this

theorem es_load (hT : TabOK V.tab P) {t : Nat} {x : Operand} (ho : o.op = .load t x) (h : (vmOp V key fr M (.load t x) K).eval = some ret) : Snd P c key fr M o fun r => (K r).eval = some ret := by
  simp only [vmOp] at h
  split at h
  · exact (fail_eval h).elim
  · rename_i i hi
    split at h
    · rename_i j off hx
      split at h
      · rename_i cs ty b hj
        obtain ⟨q1, q2⟩ := snd_load_box (c := c) (key := key) (M := M) hT ho hi hx hj
        cases ha : i.agg with
        | true =>
          simp only [ha] at h
          split at h
          · rename_i l hl
            exact .val (q1 l ha hl) h
          · exact (fail_eval h).elim
        | false =>
          simp only [ha] at h
          split at h
          · rename_i s hs
            exact .val (q2 s ha hs) h
          · exact (fail_eval h).elim
      · exact (fail_eval h).elim
    · rename_i j z k off hx
      split at h
      · rename_i T l hj
        cases hb : Nat.beq k T.size with
        | false => simp only [hb] at h; exact (fail_eval h).elim
        | true =>
          simp only [hb] at h
          have := Nat.eq_of_beq_eq_true hb
          subst this
          exact ldT_sound hT ho hi hx h fun y hy h0 h1 E p W g hM hg hk hok => elt_ro hM (getM_of hM hg hok hk hj) hy off
      · rename_i ty T l hj
        cases hb : Nat.beq k T.size with
        | false => simp only [hb] at h; exact (fail_eval h).elim
        | true =>
          simp only [hb] at h
          have := Nat.eq_of_beq_eq_true hb
          subst this
          exact ldT_sound hT ho hi hx h fun y hy h0 h1 E p W g hM hg hk hok => elt_own hM (getM_of hM hg hok hk hj) hy off
      · rename_i cs hj
        cases k with
        | zero =>
          simp only at h
          obtain ⟨q1, q2⟩ := snd_load_rop (c := c) (key := key) (M := M) hT ho hi hx hj
          cases ha : i.agg with
          | true =>
            simp only [ha] at h
            split at h
            · rename_i l hl
              exact .val (q1 l ha hl) h
            · exact (fail_eval h).elim
          | false =>
            simp only [ha] at h
            split at h
            · rename_i s hs
              exact .val (q2 s ha hs) h
            · exact (fail_eval h).elim
        | succ k =>
          simp only at h
          split at h
          · rename_i T hTy
            refine ldT_sound hT ho hi hx h fun y hy h0 h1 E p W g hM hg hk hok => ?_
            have hgj := getM_of hM (fun q hq => hg q (by simp at hq; simp [hq])) hok hk hj
            obtain ⟨_, hcs, ⟨a, r1, r2, r3⟩, _⟩ := hM.at_ j _ hgj
            obtain ⟨vs, s1, s2⟩ := row_base hM hg hk hcs (fun q hq => by simp [hq]) hy
            refine ⟨a.add (z.toNat * (k + 1) + off), vs, by simp [den, r1], fun n u hu => ?_, s1⟩
            have := s2 n u (by simpa using hu)
            rw [denL_eq, List.getElem?_map] at this
            cases hs : cs[off + (z.toNat * (k + 1) + n)]? with
            | none => simp [hs] at this
            | some s =>
              simp only [hs, Option.map_some, Option.some.injEq] at this
              rw [Addr.add_add, show z.toNat * (k + 1) + off + n = off + (z.toNat * (k + 1) + n) from by omega, ← this]
              exact r3 _ s hs
          · exact (fail_eval h).elim
      · exact (fail_eval h).elim
    · rename_i j off z k o' hx
      split at h
      · rename_i cs ty b T hj hTy
        refine ldT_sound hT ho hi hx h fun y hy h0 h1 E p W g hM hg hk hok => ?_
        have hgj := getM_of hM (fun q hq => hg q (by simp at hq; simp [hq])) hok hk hj
        obtain ⟨_, hcs, h3, _⟩ := hM.at_ j _ hgj
        simp only [AtomAt] at h3
        obtain ⟨vs, s1, s2⟩ := row_base hM hg hk hcs (fun q hq => by simp [hq]) hy
        refine ⟨⟨E.blk j, off + z.toNat * k + o', none⟩, vs, rfl, fun n u hu => ?_, s1⟩
        have := s2 n u (by simpa using hu)
        rw [Addr.add_lit, cell_of_heap h3, show off + z.toNat * k + o' + n = off + o' + (z.toNat * k + n) from by omega]
        exact this
      · exact (fail_eval h).elim
    · exact (fail_eval h).elim

theorem es_store (hT : TabOK V.tab P) (hfresh : ∀ k, key ≤ k → getM k M = none) {t : Nat} {x y : Operand} (ho : o.op = .store t x y) (h : (vmOp V key fr M (.store t x y) K).eval = some ret) : Snd P c key fr M o fun r => (K r).eval = some ret := by
  simp only [vmOp] at h
  split at h
  · exact (fail_eval h).elim
  · rename_i i hi
    split at h
    · exact (fail_eval h).elim
    · rename_i s hs
      split at h
      · rename_i n h1 hl h0
        have hl := Nat.eq_of_beq_eq_true hl
        have h0' : i.size ≠ 0 := by omega
        split at h
        · rename_i j off hx
          split at h
          · rename_i cs ty hj
            split at h
            · rename_i cs' hcs
              have := lt_key hfresh hj
              exact ⟨_, snd_store_box hT ho hi hs h1 hl h0' hx hj hcs, fun k hk => by simp [keysU] at hk; omega, h⟩
            · exact (fail_eval h).elim
          · exact (fail_eval h).elim
        · rename_i j q k z hx
          split at h
          · rename_i ty T l hj
            split at h
            · rename_i ls hb hz hls
              have := Nat.eq_of_beq_eq_true hb
              subst this
              split at h
              · rename_i e he
                rcases Tree.ite_eval h with ⟨hin, h⟩ | ⟨_, h⟩
                · have := lt_key hfresh hj
                  exact ⟨_, snd_store_elt hT ho hi hs h1 hl h0' hx hj hls he hin (Nat.le_of_ble_eq_true hz), fun k hk => by simp [keysU] at hk; omega, h⟩
                · exact (fail_eval h).elim
              · exact (fail_eval h).elim
            · exact (fail_eval h).elim
          · exact (fail_eval h).elim
        · exact (fail_eval h).elim
      · exact (fail_eval h).elim

theorem es_nilCheck {x : Operand} (ho : o.op = .nilCheck x) (h : (vmOp V key fr M (.nilCheck x) K).eval = some ret) : Snd P c key fr M o fun r => (K r).eval = some ret := by
  simp only [vmOp] at h
  split at h
  · rename_i j off hx
    exact .val (snd_nilCheck ho hx (.inl ⟨_, _, rfl⟩)) h
  · rename_i j i k off hx
    split at h
    · rename_i cs hj
      have := snd_nilCheck (P := P) (c := c) (key := key) (M := M) ho hx (.inr (.inl ⟨j, i, off, rfl, trivial⟩))
      exact .val (OpOK.rd (s := .eptr j i 0 off) [j] this) h
    · exact (fail_eval h).elim
  · rename_i f a b hx
    split at h
    · rename_i g
      exact .val (snd_nilCheck ho hx (.inr (.inr ⟨_, _, _, rfl⟩))) h
    · exact (fail_eval h).elim
  · exact (fail_eval h).elim

theorem es_arithV {op : BinOp} {xt yt : Nat} {x y : Operand} (ho : o.op = .binOp op xt x y yt) {k : IntKind} {a b : Int} (hx : ev fr x = some (.v (.int k a))) (hy : ev fr y = some (.v (.int k b))) (h : (arithV op k a b fun s => K (.val s)).eval = some ret) : Snd P c key fr M o fun r => (K r).eval = some ret := by
  cases op with
  | add => exact .val (snd_arith ho hx hy (.inl rfl) rfl) h
  | sub => exact .val (snd_arith ho hx hy (.inl rfl) rfl) h
  | mul => exact .val (snd_arith ho hx hy (.inl rfl) rfl) h
  | quo =>
    rcases Tree.ite_eval h with ⟨hb, h⟩ | ⟨_, h⟩
    · exact .val (snd_arith ho hx hy (.inl rfl) ⟨by simpa using hb, rfl⟩) h
    · exact (fail_eval h).elim
  | rem =>
    rcases Tree.ite_eval h with ⟨hb, h⟩ | ⟨_, h⟩
    · exact .val (snd_arith ho hx hy (.inl rfl) ⟨by simpa using hb, rfl⟩) h
    · exact (fail_eval h).elim
  | and => exact .val (snd_arith ho hx hy (.inl rfl) rfl) h
  | or => exact .val (snd_arith ho hx hy (.inl rfl) rfl) h
  | andNot => exact .val (snd_arith ho hx hy (.inl rfl) rfl) h
  | eql => exact .val (snd_cmp ho hx hy (by simp) (by simp [cmpB])) h
  | neq => exact .val (snd_cmp ho hx hy (by simp) (by simp [cmpB])) h
  | lss => exact .val (snd_cmp ho hx hy (by simp) (by simp [cmpB])) h
  | leq => exact .val (snd_cmp ho hx hy (by simp) (by simp [cmpB])) h
  | gtr => exact .val (snd_cmp ho hx hy (by simp) (by simp [cmpB])) h
  | geq => exact .val (snd_cmp ho hx hy (by simp) (by simp [cmpB])) h
  | _ => exact (fail_eval h).elim
end
end Go.VM

/-
The operations are sound, second part.
-/
set_option linter.unusedVariables false
set_option linter.unusedSimpArgs false
namespace Go.VM
open Go.RowKit

theorem eqL_spec : ∀ (us vs : List Leaf) (b : Bool), eqL us vs = some b → ∀ (xs ys : List Value), LRepL (fun _ => True) default us xs → LRepL (fun _ => True) default vs ys → ∀ zs, kindsOK xs zs = true → kindsOK ys zs = true → (b = true ↔ xs = ys)
  | [], [], b, h, xs, ys, hx, hy, _, _, _ => by
    simp only [eqL, Option.some.injEq] at h
    cases hx; cases hy
    simp [← h]
  | [], _ :: _, b, h, _, _, _, _, _, _, _ => by simp [eqL] at h
  | _ :: _, [], b, h, _, _, _, _, _, _, _ => by simp [eqL] at h
  | x :: r, y :: q, b, h, xs, ys, hx, hy, zs, hk1, hk2 => by
    obtain ⟨v, ws, rfl, h1, h2⟩ := hx
    obtain ⟨v', ws', rfl, h1', h2'⟩ := hy
    simp only [eqL] at h
    split at h
    · rename_i k1 a k2 b'
      have h1 : v = .int k1 a := h1
      have h1' : v' = .int k2 b' := h1'
      subst h1 h1'
      cases zs with
      | nil => simp [kindsOK] at hk1
      | cons z zs =>
        cases z with
        | int k3 c3 =>
          simp only [kindsOK] at hk1 hk2
          cases e1 : decide (k1 = k3) with
          | false => simp [e1] at hk1
          | true =>
            cases e2 : decide (k2 = k3) with
            | false => simp [e2] at hk2
            | true =>
              simp only [e1] at hk1
              simp only [e2] at hk2
              have e1 := of_decide_eq_true e1
              have e2 := of_decide_eq_true e2
              subst e1 e2
              split at h
              · cases h2; cases h2'
                simp only [Option.some.injEq] at h
                simp [← h]
              · split at h
                · rename_i c hc
                  have := eqL_spec r q c hc ws ws' h2 h2' zs hk1 hk2
                  simp only [Option.some.injEq] at h
                  simp [← h, this]
                · simp at h
        | _ => simp [kindsOK] at hk1
    · rename_i a b'
      have h1 : v = .bool a := h1
      have h1' : v' = .bool b' := h1'
      subst h1 h1'
      cases zs with
      | nil => simp [kindsOK] at hk1
      | cons z zs =>
        cases z with
        | bool c3 =>
          simp only [kindsOK] at hk1 hk2
          split at h
          · cases h2; cases h2'
            simp only [Option.some.injEq] at h
            simp [← h]
          · split at h
            · rename_i c hc
              have := eqL_spec r q c hc ws ws' h2 h2' zs hk1 hk2
              simp only [Option.some.injEq] at h
              simp [← h, this]
            · simp at h
        | _ => simp [kindsOK] at hk1
    · simp at h

/-- Cells that are numbers and bools are plain. -/
theorem leafL_unV : ∀ (ss : List SV) (ls : List Leaf), leafL ss = some ls → ∃ us, unV ss = some us ∧ LRepL (fun _ => True) default ls us
  | [], ls, h => by simp only [leafL, Option.some.injEq] at h; subst h; exact ⟨[], rfl, rfl⟩
  | s :: r, ls, h => by
    simp only [leafL] at h
    cases hx : leaf0 [] false none s with
    | none => simp [hx] at h
    | some x =>
      simp only [hx] at h
      cases hr : leafL r with
      | none => simp [hr] at h
      | some l =>
        simp only [hr, Option.some.injEq] at h
        subst h
        obtain ⟨us, h1, h2⟩ := leafL_unV r l hr
        cases s with
        | v y =>
          refine ⟨y :: us, by simp [unV, h1], y, us, rfl, ?_, h2⟩
          cases y with
          | int k z => simp [leaf0] at hx; subst hx; rfl
          | bool b => simp [leaf0] at hx; subst hx; rfl
          | slice A n q =>
            cases A <;> cases n <;> cases q <;> simp [leaf0] at hx
          | _ => simp [leaf0] at hx
        | own j => simp [leaf0, getM] at hx
        | _ => simp [leaf0] at hx
section
variable {R : Type} {V : VE} {P : Program} {c : Ctx} {key : Nat} {fr : List (Nat × SV)} {M : List (Nat × Atom)} {K : Res → Tree R} {o : Oper} {ret : R}

theorem es_binOp (hT : TabOK V.tab P) {op : BinOp} {xt yt : Nat} {x y : Operand} (ho : o.op = .binOp op xt x y yt) (h : (vmOp V key fr M (.binOp op xt x y yt) K).eval = some ret) : Snd P c key fr M o fun r => (K r).eval = some ret := by
  simp only [vmOp] at h
  split at h
  · rename_i k a hx
    split at h
    · rename_i k' b hy
      split at h
      · rcases Tree.ite_eval h with ⟨hb, h⟩ | ⟨_, h⟩
        · exact .val (snd_arith ho hx hy (.inr (.inl rfl)) ⟨by simpa using hb, rfl⟩) h
        · exact (fail_eval h).elim
      · rcases Tree.ite_eval h with ⟨hb, h⟩ | ⟨_, h⟩
        · exact .val (snd_arith ho hx hy (.inr (.inr rfl)) ⟨by simpa using hb, rfl⟩) h
        · exact (fail_eval h).elim
      · split at h
        · rename_i hk
          have := of_decide_eq_true hk
          subst this
          exact es_arithV ho hx hy h
        · exact (fail_eval h).elim
    · exact (fail_eval h).elim
  · rename_i a hx
    split at h
    · rename_i b hy
      split at h
      · exact (fail_eval h).elim
      · rename_i i hi
        split at h
        · rename_i hk
          exact .val (snd_eqBool hT ho hx hy hi (Nat.eq_of_beq_eq_true hk) (.inl ⟨rfl, rfl⟩)) h
        · rename_i hk
          exact .val (snd_eqBool hT ho hx hy hi (Nat.eq_of_beq_eq_true hk) (.inr ⟨rfl, rfl⟩)) h
        · exact (fail_eval h).elim
    · exact (fail_eval h).elim
  · rename_i xs hx
    split at h
    · rename_i ys hy
      split at h
      · exact (fail_eval h).elim
      · rename_i i hi
        split at h
        · rename_i us vs he hu hv
          obtain ⟨us', u1, u2⟩ := leafL_unV _ _ hu
          obtain ⟨vs', v1, v2⟩ := leafL_unV _ _ hv
          split at h
          · rename_i b hb
            split at h
            · rename_i k1 k2
              have k1 : kindsOK us' i.zero = true := by simpa [kindsL, u1] using k1
              have k2 : kindsOK vs' i.zero = true := by simpa [kindsL, v1] using k2
              have key' := eqL_spec us vs b hb us' vs' u2 v2 i.zero k1 k2
              split at h
              · exact .val (snd_eqAgg hT ho hx hy hi he u1 v1 k1 k2 (.inl ⟨rfl, key'⟩)) h
              · exact .val (snd_eqAgg hT ho hx hy hi he u1 v1 k1 k2 (.inr ⟨rfl, by cases b <;> simp_all⟩)) h
              · exact (fail_eval h).elim
            · exact (fail_eval h).elim
          · exact (fail_eval h).elim
        · exact (fail_eval h).elim
    · exact (fail_eval h).elim
  · exact (fail_eval h).elim

theorem es_unOp {op : UnOp} {t : Nat} {x : Operand} (ho : o.op = .unOp op t x) (h : (vmOp V key fr M (.unOp op t x) K).eval = some ret) : Snd P c key fr M o fun r => (K r).eval = some ret := by
  simp only [vmOp] at h
  split at h
  · split at h
    · rename_i b hx
      exact .val (snd_not ho hx) h
    · exact (fail_eval h).elim
  · split at h
    · rename_i k a hx
      exact .val (snd_neg ho hx rfl) h
    · exact (fail_eval h).elim
  · exact (fail_eval h).elim

theorem es_fieldAddr (hT : TabOK V.tab P) {t f : Nat} {x : Operand} (ho : o.op = .fieldAddr t x f) (h : (vmOp V key fr M (.fieldAddr t x f) K).eval = some ret) : Snd P c key fr M o fun r => (K r).eval = some ret := by
  simp only [vmOp] at h
  split at h
  · exact (fail_eval h).elim
  · rename_i i hi
    split at h
    · rename_i off sz hk hf
      have hk := Nat.eq_of_beq_eq_true hk
      split at h
      · rename_i j q hx
        exact .val (snd_fieldAddr hT ho hi hk hf hx (.inl ⟨_, _, rfl, rfl⟩)) h
      · rename_i j q x k o' hx
        exact .val (snd_fieldAddr hT ho hi hk hf hx (.inr (.inl ⟨_, _, _, _, _, rfl, rfl⟩))) h
      · rename_i j x k o' hx
        exact .val (snd_fieldAddr hT ho hi hk hf hx (.inr (.inr ⟨_, _, _, _, rfl, rfl⟩))) h
      · exact (fail_eval h).elim
    · exact (fail_eval h).elim

theorem litOf_ev {q : Operand} {m : Nat} {k : IntKind} {n : Int} (h : litOf q = some m) (hq : ev fr q = some (.v (.int k n))) : n = (m : Int) := by
  cases q with
  | const x =>
    simp only [ev, Option.some.injEq] at hq
    injection hq with hq
    subst hq
    simp only [litOf] at h
    split at h
    · simp only [Option.some.injEq] at h
      subst h
      rfl
    · simp at h
  | _ => simp [litOf] at h

theorem es_indexAddr (hT : TabOK V.tab P) {t : Nat} {x q : Operand} (ho : o.op = .indexAddr t x q) (h : (vmOp V key fr M (.indexAddr t x q) K).eval = some ret) : Snd P c key fr M o fun r => (K r).eval = some ret := by
  simp only [vmOp] at h
  split at h
  · exact (fail_eval h).elim
  · rename_i i hi
    split at h
    · rename_i k n hq
      split at h
      · rename_i hk
        split at h
        · rename_i j off hx
          split at h
          · rename_i m hm
            cases hb : Nat.blt m i.len with
            | false => simp only [hb] at h; exact (fail_eval h).elim
            | true =>
              simp only [hb] at h
              have hb := Nat.le_of_ble_eq_true hb
              have hn := litOf_ev hm hq
              have := (snd_indexAddr_box (P := P) (c := c) (key := key) (M := M) hT ho hi hk hq hx (by omega) (by omega)).1
              rw [hn, Int.toNat_natCast] at this
              exact .val this h
          · rcases Tree.ite_eval h with ⟨hb, h⟩ | ⟨_, h⟩
            · obtain ⟨h0, h1⟩ := inB_iff hb
              exact .val (snd_indexAddr_box hT ho hi hk hq hx h0 h1).2 h
            · exact (fail_eval h).elim
        · rename_i j z off hx
          rcases Tree.ite_eval h with ⟨hb, h⟩ | ⟨_, h⟩
          · obtain ⟨h0, h1⟩ := inB_iff hb
            exact .val (snd_indexAddr_rop hT ho hi hk hq hx h0 h1) h
          · exact (fail_eval h).elim
        · rename_i j z k off hx
          split at h
          · rename_i m hm
            cases hb : Nat.blt m i.len with
            | false => simp only [hb] at h; exact (fail_eval h).elim
            | true =>
              simp only [hb] at h
              have hb := Nat.le_of_ble_eq_true hb
              have hn := litOf_ev hm hq
              have := snd_indexAddr_elem (P := P) (c := c) (key := key) (M := M) hT ho hi hk hq hx (by omega) (by omega)
              rw [hn, Int.toNat_natCast] at this
              exact .val this h
          · exact (fail_eval h).elim
        · exact (fail_eval h).elim
      · rename_i hk
        split at h
        · rename_i j off len cap hx
          rcases Tree.ite_eval h with ⟨hb, h⟩ | ⟨_, h⟩
          · obtain ⟨h0, h1⟩ := inB_iff hb
            exact .val (snd_indexAddr_sl hT ho hi hk hq hx h0 h1) h
          · exact (fail_eval h).elim
        · rename_i j hx
          split at h
          · rename_i T l hj
            rcases Tree.ite_eval h with ⟨hb, h⟩ | ⟨_, h⟩
            · obtain ⟨h0, h1⟩ := inB_iff hb
              exact .val (snd_indexAddr_own hT ho hi hk hq hx (fun E p W g hM hg hk hp => ro_len hM (getM_of hM hg hp hk hj)) h0 h1) h
            · exact (fail_eval h).elim
          · rename_i ty T l hj
            rcases Tree.ite_eval h with ⟨hb, h⟩ | ⟨_, h⟩
            · obtain ⟨h0, h1⟩ := inB_iff hb
              exact .val (snd_indexAddr_own hT ho hi hk hq hx (fun E p W g hM hg hk hp => own_len hM (getM_of hM hg hp hk hj)) h0 h1) h
            · exact (fail_eval h).elim
          · exact (fail_eval h).elim
        · exact (fail_eval h).elim
      · exact (fail_eval h).elim
    · exact (fail_eval h).elim
end
end Go.VM

/-
The operations are sound, third part.
-/
set_option linter.unusedVariables false
set_option linter.unusedSimpArgs false
namespace Go.VM
open Go.RowKit

theorem row_int {k : IntKind} : ∀ (n : Nat) (cs : List SV) (l : List Int), rowOf [] false (.int k) n cs = some l → l.length = n ∧ ∀ (i : Nat) (z : Int), l[i]? = some z → cs[i]? = some (.v (.int k z))
  | 0, cs, l, h => by
    simp only [rowOf, Option.some.injEq] at h
    cases h
    exact ⟨rfl, fun i z hz => by have hz : ([] : List Int)[i]? = some z := hz; simp at hz⟩
  | n + 1, cs, l, h => by
    cases cs with
    | nil => simp [rowOf, tysOf, leavesOf] at h
    | cons s r =>
      simp only [rowOf, tysOf, leavesOf] at h
      cases hx : leaf0 [] false (some (.int k)) s with
      | none => simp [hx] at h
      | some x =>
        simp only [hx, unflat] at h
        cases ha : x.as (.int k) with
        | none => simp [ha] at h
        | some z =>
          simp only [ha] at h
          cases hr : rowOf [] false (.int k) n r with
          | none => simp [hr] at h
          | some xs =>
            simp only [hr] at h
            cases h
            obtain ⟨h1, h2⟩ := row_int n r xs hr
            have hxx := as_int ha
            subst hxx
            have hs : s = .v (.int k z) := by
              cases s with
              | v y =>
                cases y with
                | int k' z' => simp [leaf0] at hx; obtain ⟨rfl, rfl⟩ := hx; rfl
                | bool b => simp [leaf0] at hx
                | slice A n q => cases A <;> cases n <;> cases q <;> simp [leaf0] at hx
                | _ => simp [leaf0] at hx
              | own j => simp [leaf0, getM] at hx
              | _ => simp [leaf0] at hx
            subst hs
            refine ⟨congrArg (· + 1) h1, fun i w hw => ?_⟩
            cases i with
            | zero => have hw : some z = some w := hw; injection hw with hw; subst hw; rfl
            | succ i => exact h2 i w hw
theorem row_bool : ∀ (n : Nat) (cs : List SV) (l : List Bool), rowOf [] false .bool n cs = some l → l.length = n ∧ ∀ (i : Nat) (z : Bool), l[i]? = some z → cs[i]? = some (.v (.bool z))
  | 0, cs, l, h => by
    simp only [rowOf, Option.some.injEq] at h
    cases h
    exact ⟨rfl, fun i z hz => by have hz : ([] : List Bool)[i]? = some z := hz; simp at hz⟩
  | n + 1, cs, l, h => by
    cases cs with
    | nil => simp [rowOf, tysOf, leavesOf] at h
    | cons s r =>
      simp only [rowOf, tysOf, leavesOf] at h
      cases hx : leaf0 [] false (some .bool) s with
      | none => simp [hx] at h
      | some x =>
        simp only [hx, unflat] at h
        cases ha : x.as .bool with
        | none => simp [ha] at h
        | some z =>
          simp only [ha] at h
          cases hr : rowOf [] false .bool n r with
          | none => simp [hr] at h
          | some xs =>
            simp only [hr] at h
            cases h
            obtain ⟨h1, h2⟩ := row_bool n r xs hr
            have hxx := as_bool ha
            subst hxx
            have hs : s = .v (.bool z) := by
              cases s with
              | v y =>
                cases y with
                | bool z' => simp [leaf0] at hx; cases hx; rfl
                | int k b => simp [leaf0] at hx
                | slice A n q => cases A <;> cases n <;> cases q <;> simp [leaf0] at hx
                | _ => simp [leaf0] at hx
              | own j => simp [leaf0, getM] at hx
              | _ => simp [leaf0] at hx
            subst hs
            refine ⟨congrArg (· + 1) h1, fun i w hw => ?_⟩
            cases i with
            | zero => have hw : some z = some w := hw; injection hw with hw; subst hw; rfl
            | succ i => exact h2 i w hw

section
variable {tab : Nat → Option TI} {P : Program} {c : Ctx} {key : Nat} {fr : List (Nat × SV)} {M : List (Nat × Atom)} {o : Oper}
theorem snd_index {t : Nat} {x q : Operand} (hT : TabOK tab P) (ho : o.op = .index t x q) {i e : TI} (hi : tab t = some i) (hk : i.kind = 2) (he : tab i.elem = some e) (ha : e.agg = false) (hsz : e.size = 1) {k : IntKind} {n : Int} (hq : ev fr q = some (.v (.int k n))) {cs : List SV}
    (hx : ev fr x = some (.agg cs)) {m : Nat} (hn : n = (m : Int)) (h1 : m < i.len) {s : SV} (hs : cs[m]? = some s) : OpOK P c key o fr M (.val s) :=
  .pure fun E p a W _ _ hop => by
    obtain ⟨h2, h3⟩ := hop x (by simp [ho, Op.operands]) _ hx
    have h4 := (hop q (by simp [ho, Op.operands]) _ hq).2
    simp only [den] at h3 h4
    refine ⟨(okL_iff p cs).1 h2 s (List.mem_of_getElem? hs), ?_⟩
    obtain ⟨h5, h6⟩ := hT.arr t i hi hk
    have hes : i.esize = 1 := by
      have := info_of hT he
      rw [h6] at this
      simpa [hsz] using this
    rw [hes] at h6
    have hagg := hT.agg _ _ he W
    rw [ha] at hagg
    subst hn
    have hget : (denL E cs)[m]? = some (den E s) := by simp [denL_eq, hs]
    simp [execOp, ho, h3, h4, Instr.index, asIntOf, run_underlying h5 W, h1, mapOpt_size h6 W, Go.part, hagg, hget]
end
section
variable {R : Type} {V : VE} {P : Program} {c : Ctx} {key : Nat} {fr : List (Nat × SV)} {M : List (Nat × Atom)} {K : Res → Tree R} {o : Oper} {ret : R}

theorem es_index (hT : TabOK V.tab P) {t : Nat} {x q : Operand} (ho : o.op = .index t x q) (h : (vmOp V key fr M (.index t x q) K).eval = some ret) : Snd P c key fr M o fun r => (K r).eval = some ret := by
  simp only [vmOp] at h
  split at h
  · exact (fail_eval h).elim
  · rename_i i hi
    split at h
    · rename_i k n hq
      split at h
      · rename_i e hk he
        have hk := Nat.eq_of_beq_eq_true hk
        split at h
        · rename_i cs hx ha hsz
          have hsz := Nat.eq_of_beq_eq_true hsz
          split at h
          · rename_i m hm
            split at h
            · rename_i s hb hs
              rw [nthN_eq] at hs
              exact .val (snd_index hT ho hi hk he ha hsz hq hx (litOf_ev hm hq) (Nat.le_of_ble_eq_true hb) hs) h
            · exact (fail_eval h).elim
          · split at h
            · rename_i k' hty
              split at h
              · rename_i l hl
                rcases Tree.ite_eval h with ⟨hb, h⟩ | ⟨_, h⟩
                · obtain ⟨r1, r2⟩ := row_int _ _ _ hl
                  obtain ⟨h0, h1⟩ := inB_iff hb
                  have := r2 _ _ (rd_get (d := (0 : Int)) hb)
                  have h1' : n < (i.len : Int) := by rw [← r1]; exact h1
                  exact .val (snd_index hT ho hi hk he ha hsz hq hx (m := n.toNat) (by omega) (by omega) this) h
                · exact (fail_eval h).elim
              · exact (fail_eval h).elim
            · rename_i hty
              split at h
              · rename_i l hl
                rcases Tree.ite_eval h with ⟨hb, h⟩ | ⟨_, h⟩
                · obtain ⟨r1, r2⟩ := row_bool _ _ _ hl
                  obtain ⟨h0, h1⟩ := inB_iff hb
                  have := r2 _ _ (rd_get (d := false) hb)
                  have h1' : n < (i.len : Int) := by rw [← r1]; exact h1
                  exact .val (snd_index hT ho hi hk he ha hsz hq hx (m := n.toNat) (by omega) (by omega) this) h
                · exact (fail_eval h).elim
              · exact (fail_eval h).elim
            · exact (fail_eval h).elim
        · exact (fail_eval h).elim
      · exact (fail_eval h).elim
    · exact (fail_eval h).elim

theorem es_slice (hT : TabOK V.tab P) (hfresh : ∀ k, key ≤ k → getM k M = none) {t : Nat} {x : Operand} {lo hi mx : Option Operand} (ho : o.op = .slice t x lo hi mx) (h : (vmOp V key fr M (.slice t x lo hi mx) K).eval = some ret) : Snd P c key fr M o fun r => (K r).eval = some ret := by
  simp only [vmOp] at h
  split at h
  · rename_i i hi'
    split at h
    · rename_i hk
      split at h
      · rename_i j off hq hx
        split at h
        · rename_i k b cs ty bb e hh hj he
          split at h
          · rename_i T hTy
            split at h
            · rename_i l hl
              rcases Tree.ite_eval h with ⟨hb, h⟩ | ⟨_, h⟩
              · simp only [Bool.and_eq_true, decide_eq_true_eq] at hb
                have := lt_key hfresh hj
                exact ⟨_, snd_slice_box hT ho hi' hk he hTy hx hh hj hl hb.1 hb.2, fun k hk => by simp [keysU] at hk; omega, h⟩
              · exact (fail_eval h).elim
            · exact (fail_eval h).elim
          · exact (fail_eval h).elim
        · exact (fail_eval h).elim
      · rename_i j z off hx
        split at h
        · rename_i cs e hj he
          split at h
          · rename_i T b hTy hb'
            split at h
            · rename_i l hl
              rcases Tree.ite_eval h with ⟨hb, h⟩ | ⟨_, h⟩
              · simp only [Bool.and_eq_true, decide_eq_true_eq] at hb
                exact ⟨_, snd_slice_rop hT ho hi' hk he hTy hx hb' hj hl hb.1 hb.2, by simp [keysU], h⟩
              · exact (fail_eval h).elim
            · exact (fail_eval h).elim
          · exact (fail_eval h).elim
        · exact (fail_eval h).elim
      · rename_i j off hx
        exact .val (snd_slice_box_all hT ho hi' hk hx) h
      · exact (fail_eval h).elim
    · rename_i hk
      split at h
      · rename_i j hx
        split at h
        · rename_i T l hj
          split at h
          · rename_i a b hlo hhi
            cases hsz : Nat.beq i.esize T.size with
            | false => simp only [hsz] at h; exact (fail_eval h).elim
            | true =>
              simp only [hsz] at h
              rcases Tree.ite_eval h with ⟨hb, h⟩ | ⟨_, h⟩
              · simp only [Bool.and_eq_true, decide_eq_true_eq] at hb
                exact ⟨_, snd_slice_ro hT ho hi' hk hx hj (Nat.eq_of_beq_eq_true hsz) hlo hhi hb.1.1 hb.1.2 hb.2, by simp [keysU], h⟩
              · exact (fail_eval h).elim
          · exact (fail_eval h).elim
        · rename_i ty T l hj
          split at h
          · rename_i hq
            split at h
            · rename_i k b hh
              rcases Tree.ite_eval h with ⟨hb, h⟩ | ⟨_, h⟩
              · simp only [Bool.and_eq_true, decide_eq_true_eq] at hb
                have := lt_key hfresh hj
                exact ⟨_, snd_slice_own hT ho hi' hk hx hh hj hb.1 hb.2, fun k hk => by simp [keysU] at hk; omega, h⟩
              · exact (fail_eval h).elim
            · exact (fail_eval h).elim
          · exact (fail_eval h).elim
        · exact (fail_eval h).elim
      · exact (fail_eval h).elim
    · exact (fail_eval h).elim
  · exact (fail_eval h).elim

theorem es_extract {x : Operand} {n : Nat} (ho : o.op = .extract x n) (h : (vmOp V key fr M (.extract x n) K).eval = some ret) : Snd P c key fr M o fun r => (K r).eval = some ret := by
  simp only [vmOp] at h
  split at h
  · rename_i cs hx
    split at h
    · rename_i s hs
      exact .val (snd_extract ho hx hs) h
    · exact (fail_eval h).elim
  · exact (fail_eval h).elim
theorem es_makeFunc {f : Fn} {x y : Array Operand} (ho : o.op = .makeFunc f x y) (h : (vmOp V key fr M (.makeFunc f x y) K).eval = some ret) : Snd P c key fr M o fun r => (K r).eval = some ret := by
  simp only [vmOp] at h
  split at h
  · rename_i l q hx hy
    exact .val (snd_makeFunc ho hx hy) h
  · exact (fail_eval h).elim
theorem es_build (hT : TabOK V.tab P) {t : Nat} {parts : Array (Nat × Operand)} (ho : o.op = .build t parts) (h : (vmOp V key fr M (.build t parts) K).eval = some ret) : Snd P c key fr M o fun r => (K r).eval = some ret := by
  simp only [vmOp] at h
  split at h
  · exact (fail_eval h).elim
  · rename_i i hi
    split at h
    · rename_i hk
      obtain ⟨s, h1, h2⟩ := snd_build (c := c) (key := key) (M := M) hT ho hi (.inl ⟨hk, rfl⟩) (L := fun s => K (.val s)) h
      exact .val h1 h2
    · rename_i hk
      obtain ⟨s, h1, h2⟩ := snd_build (c := c) (key := key) (M := M) hT ho hi (.inr ⟨hk, rfl⟩) (L := fun s => K (.val s)) h
      exact .val h1 h2
    · exact (fail_eval h).elim
theorem es_buildSlice (hT : TabOK V.tab P) (hfresh : ∀ k, key ≤ k → getM k M = none) {t n : Nat} {parts : Array (Nat × Operand)} (ho : o.op = .buildSlice t n parts) (h : (vmOp V key fr M (.buildSlice t n parts) K).eval = some ret) : Snd P c key fr M o fun r => (K r).eval = some ret := by
  simp only [vmOp] at h
  split at h
  · exact (fail_eval h).elim
  · rename_i i hi
    split at h
    · rename_i e hk he
      cases hb : Nat.ble (n * i.esize) 1000 with
      | false => simp only [hb] at h; exact (fail_eval h).elim
      | true =>
        simp only [hb] at h
        obtain ⟨l, h2, h1⟩ := snd_buildSlice (c := c) (key := key) (M := M) hT ho hi (Nat.eq_of_beq_eq_true hk) he (Nat.le_of_ble_eq_true hb) h
        rcases hm : meltL M (key + 1) (List.replicate n e.cts).flatten l with ⟨l', u, m, rd⟩
        simp only [hm] at h2
        cases hb2 : Nat.ble (m - key) 8 with
        | false => simp only [hb2] at h2; exact (fail_eval h2).elim
        | true =>
          simp only [hb2] at h2
          have h8 := Nat.le_of_ble_eq_true hb2
          obtain ⟨q1, q2⟩ := melt_keys (fun k hk => hfresh k (by omega)) _ _ _ _ _ _ hm
          exact ⟨_, h1 _ _ _ _ _ hm h8, fun k hk => by
            simp only [keysU, List.mem_cons] at hk
            rcases hk with rfl | hk
            · omega
            · have := q2 k hk
              omega, h2⟩
    · exact (fail_eval h).elim
theorem es_makeSlice (hT : TabOK V.tab P) {t : Nat} {x y : Operand} (ho : o.op = .makeSlice t x y) (h : (vmOp V key fr M (.makeSlice t x y) K).eval = some ret) : Snd P c key fr M o fun r => (K r).eval = some ret := by
  simp only [vmOp] at h
  split at h
  · exact (fail_eval h).elim
  · rename_i i hi
    split at h
    · rename_i e hk he
      split at h
      · rename_i T hTy
        split at h
        · rename_i n hx
          split at h
          · rename_i n' hy
            rcases Tree.ite_eval h with ⟨hb, h2⟩ | ⟨_, h2⟩
            · simp only [Bool.and_eq_true, decide_eq_true_eq] at hb
              obtain ⟨⟨rfl, h0⟩, hr⟩ := hb
              exact ⟨_, snd_makeSlice hT ho hi (Nat.eq_of_beq_eq_true hk) he hTy hx hy h0 hr, by simp [keysU], h2⟩
            · exact (fail_eval h2).elim
          · exact (fail_eval h).elim
        · exact (fail_eval h).elim
      · exact (fail_eval h).elim
    · exact (fail_eval h).elim
theorem es_convert (hT : TabOK V.tab P) {s t : Nat} {x : Operand} (ho : o.op = .convert s t x) (h : (vmOp V key fr M (.convert s t x) K).eval = some ret) : Snd P c key fr M o fun r => (K r).eval = some ret := by
  simp only [vmOp] at h
  split at h
  · rename_i i0 i k a hs hi hx
    split at h
    · rename_i hk
      exact .val (snd_convert (i := i) hT ho (hT.i64 _ _ hi hk) (hT.und _ _ hs) hx rfl) h
    · rename_i hk
      exact .val (snd_convert (i := i) hT ho (hT.u64 _ _ hi hk) (hT.und _ _ hs) hx rfl) h
    · exact (fail_eval h).elim
  · exact (fail_eval h).elim

theorem evL_one {xs : List Operand} {s : SV} (h : evL fr xs = some [s]) : ∃ x, xs = [x] ∧ ev fr x = some s := by
  cases xs with
  | nil => simp [evL] at h
  | cons x r =>
    simp only [evL] at h
    cases hx : ev fr x with
    | none => simp [hx] at h
    | some y =>
      simp only [hx] at h
      cases r with
      | nil => simp [evL] at h; subst h; exact ⟨x, rfl, hx⟩
      | cons x' r' =>
        cases hr : evL fr (x' :: r') with
        | none => simp [hr] at h
        | some q =>
          simp only [hr, Option.some.injEq, List.cons.injEq] at h
          obtain ⟨_, rfl⟩ := h
          simp only [evL] at hr
          cases hx' : ev fr x' with
          | none => simp [hx'] at hr
          | some z =>
            simp only [hx'] at hr
            cases hr' : evL fr r' with
            | none => simp [hr'] at hr
            | some w => simp [hr'] at hr
theorem evL_two {xs : List Operand} {s s' : SV} (h : evL fr xs = some [s, s']) : ∃ x y, xs = [x, y] ∧ ev fr x = some s ∧ ev fr y = some s' := by
  cases xs with
  | nil => simp [evL] at h
  | cons x r =>
    simp only [evL] at h
    cases hx : ev fr x with
    | none => simp [hx] at h
    | some y =>
      simp only [hx] at h
      cases hr : evL fr r with
      | none => simp [hr] at h
      | some q =>
        simp only [hr, Option.some.injEq, List.cons.injEq] at h
        obtain ⟨rfl, rfl⟩ := h
        obtain ⟨z, rfl, hz⟩ := evL_one hr
        exact ⟨x, z, rfl, hx, hz⟩
end
end Go.VM

/-
Calls of yield.
-/
set_option linter.unusedVariables false
set_option linter.unusedSimpArgs false
namespace Go.VM
open Go.RowKit

theorem yieldAt_mono {F : Fence} {m : Nat} {P : Program} {l : Nat} {args : Array Value} {W : World} {R R' : Ending → World → Prop} (h : YieldAt F m P l args W R) (hr : ∀ e w, R e w → R' e w) : YieldAt F m P l args W R' := by
  obtain ⟨fn, tmps, assign, body, h1, h2⟩ := h
  exact ⟨fn, tmps, assign, body, h1, h2.mono hr⟩

/-- What whoever ranges over this function does in a round; what stays so. -/
structure YieldsOK (P : Program) (c : Ctx) : Prop where
  stable : ∀ i B W1 W2, c.J i B W1 → c.w0.heap.size ≤ W1.heap.size → W2.os = W1.os → W2.tape = W1.tape → W2.output = W1.output → W1.heap.size ≤ W2.heap.size → (∀ b, b < c.w0.heap.size ∨ b ∈ B → W2.heap[b]? = W1.heap[b]?) → c.J i B W2
  round : ∀ i x, c.xs[i]? = some x → ∀ B1 W1, c.J i B1 W1 → (∀ b, b ∈ B1 → b < W1.heap.size) → c.w0.heap.size ≤ W1.heap.size → (∀ b, b ∈ c.S → b ∈ B1) → YieldAt Fence.wide 7 P c.yl x.toArray W1 fun e W2 => e = .returned (.bool true) ∧
      ∃ B2, c.J (i + 1) B2 W2 ∧ (∀ b, b ∈ B1 → b ∈ B2) ∧ (∀ b, b ∈ B2 → b < W2.heap.size) ∧ (∀ b, b ∈ B2 → b ∈ B1 ∨ W1.heap.size ≤ b) ∧ Fr B1 W1 W2
  low : ∀ b, b ∈ c.S → b < c.w0.heap.size

theorem eqD_eq : ∀ (t : Ty) (x y : t.den), eqD t x y = true → x = y
  | .int k, x, y, h => of_decide_eq_true (p := (show Int from x) = (show Int from y)) h
  | .bool, x, y, h => (beq_iff_eq (a := (show Bool from x)) (b := (show Bool from y))).1 h
  | .prod a b, x, y, h => by
    simp only [eqD, Bool.and_eq_true] at h
    exact Prod.ext (eqD_eq a _ _ h.1) (eqD_eq b _ _ h.2)
  | .slice a, x, y, h => by simp [eqD] at h

theorem reps_item {B : Nat → Prop} {W : World} : ∀ (t : Ty) (x : t.den) (vs : List Value), tyRefs t = false → Reps B W t x vs → vs = itemV t x
  | .int k, x, vs, _, h => h
  | .bool, x, vs, _, h => h
  | .prod a b, x, vs, ht, h => by
    simp only [tyRefs] at ht
    cases ha : tyRefs a with
    | true => simp [ha] at ht
    | false =>
      simp only [ha] at ht
      obtain ⟨v1, v2, rfl, h1, h2⟩ := h
      rw [reps_item a _ _ ha h1, reps_item b _ _ ht h2]
      rfl
  | .slice a, x, vs, ht, h => by simp [tyRefs] at ht

theorem roundIn_of {P : Program} {c : Ctx} {n m l : Nat} {f : FuncId} {tmps : Array Value} {assign body : Code} {W : World} {R : Ending → World → Prop} (h : RoundIn Fence.wide m P l f tmps assign body W R) : RoundIn c.F n P l f tmps assign body W R :=
  ⟨trivial, fun b cs _ => h.2 b cs (room_wide _)⟩

section
variable {R : Type} {V : VE} {P : Program} {c : Ctx} {key : Nat} {fr : List (Nat × SV)} {M : List (Nat × Atom)} {K : Res → Tree R} {o : Oper} {ret : R}

theorem snd_yieldV (hY : YieldsOK P c) {cl : Call} (ho : o.op = .call cl) {f : Operand} (hc : cl.callee = .value f) {j : Nat} {args : List SV} (ha : evL fr cl.args.toList = some args)
    (hf : ev fr f = some (.yf j)) (h : (yieldV M j args K).eval = some ret) (hfresh : ∀ k, key ≤ k → getM k M = none) : Snd P c key fr M o fun r => (K r).eval = some ret := by
  simp only [yieldV] at h
  split at h
  rotate_left
  · simp [Tree.eval] at h
  rename_i t l ls hj hls
  split at h
  rotate_left
  · simp [Tree.eval] at h
  rename_i x hx ht
  rcases Tree.ite_eval h with ⟨hin, h⟩ | ⟨_, h⟩
  rotate_left
  · simp [Tree.eval] at h
  rcases Tree.ite_eval h with ⟨heq, h⟩ | ⟨_, h⟩
  rotate_left
  · simp [Tree.eval] at h
  have hxl := rd_get (d := t.dflt) hin
  rw [← eqD_eq t _ _ heq] at hxl
  have hjk : j < key := by
    rcases Nat.lt_or_ge j key with hh | hh
    · exact hh
    · rw [hfresh j hh] at hj; cases hj
  refine ⟨_, ⟨Nat.zero_le _, fun E p a W g' hM hg hkk hop next Q hn' => ?_⟩, fun k hk => ?_, h⟩
  rotate_left
  · simp only [keysU, List.mem_singleton] at hk
    subst hk
    omega
  obtain ⟨h1, h2⟩ := evL_spec (E := E) (p := p) (ρ := a.eval) _ _ ha (fun x hx => hop x (by rw [ho]; simp [Op.operands, Call.operands, hc]; exact .inr (by simpa using hx)))
  have hfo := (hop f (by rw [ho]; simp [Op.operands, Call.operands, hc]) _ hf).2
  simp only [den] at hfo
  have hgall : ∀ k, g' k = getM k M := by
    intro k
    by_cases hr : key ≤ k ∧ k < key + 8
    · rw [hfresh k hr.1]
      cases hgk : g' k with
      | none => rfl
      | some A =>
        have := (hM.at_ k A hgk).1
        exact absurd this (by have := hkk (k - key) (by omega); rwa [show key + (k - key) = k from by omega] at this)
    · exact hg k (.inl rfl) hr
  have hgj : g' j = some (.rnd t l) := by rw [hgall j, hj]
  obtain ⟨q1, q2, ⟨⟨q30, q31, q32⟩, ⟨q33a, q33⟩, q34, q35, q36⟩, q4, q5⟩ := hM.at_ j _ hgj
  -- the arguments
  have hvals : denL E args = itemV t x := by
    obtain ⟨v1, v2, e1, e2, e3⟩ := unflat_reps (B := fun _ => True) (W := W) t ls x [] hx _ (leafL_rep E _ W args ls hls)
    have : v2 = [] := by cases v2 with | nil => rfl | cons _ _ => cases e3
    rw [e1, this, List.append_nil, reps_item t x v1 ht e2]
  have hxi : c.xs[E.ri]? = some (itemV t x) := by
    have h0 : (c.xs.drop E.ri)[0]? = some (itemV t x) := by
      rw [q33, List.getElem?_map, show (0 : Nat) = (0 : Int).toNat from rfl, hxl]
      rfl
    simpa using h0
  have hy := hY.round E.ri _ hxi E.rb W q35 (fun b hb => (q5 b hb).1) hM.fr.size q34
  obtain ⟨fn, tmps, assign, body, hrun, hround⟩ := hy
  have hargs : Array.map a.eval cl.args = (itemV t x).toArray := by
    rw [← hvals, ← h2]
    apply Array.ext'
    simp
  have hex : (execOp a.eval o).run P W = .ok (.round c.yl fn tmps assign body) W := by
    rw [← hargs] at hrun
    rw [q31] at hfo
    simp [execOp, ho, resolve, hc, hfo, Deferred.ofValue, invoke, hrun]
  refine ⟨fun f _ => trivial, ?_⟩
  rw [semAt_of (by simp) hex]
  refine ⟨fun hd => by simp [Ctx.depth] at hd, roundIn_of (hround.mono ?_)⟩
  rintro e W2 ⟨rfl, B2, r1, r2, r3, r4, r5⟩
  have hB2 : ∀ b, b ∈ B2 → b ∈ c.S ∨ c.w0.heap.size ≤ b := fun b hb => by
    rcases r4 b hb with h | h
    · exact q32 b h
    · exact .inr (Nat.le_trans hM.fr.size h)
  obtain ⟨E', hE'⟩ : ∃ E' : Env, E' = { E with rb := B2, ri := E.ri + 1 } := ⟨_, rfl⟩
  have eb : E'.blk = E.blk := by rw [hE']
  have es : E'.slv = E.slv := by rw [hE']
  have ef : E'.fz = E.fz := by rw [hE']
  have er : E'.rb = B2 := by rw [hE']
  have ei : E'.ri = E.ri + 1 := by rw [hE']
  have ep : E'.pb = E.pb := by rw [hE']
  have hag : Agree p E E' := fun k _ => by rw [eb, es]; exact ⟨rfl, rfl⟩
  have hfr : Fr c.S c.w0 W2 := hM.fr.step r5 fun b hb => (q32 b hb).symm
  have hst : ∀ b, still c E b → W2.heap[b]? = W.heap[b]? := fun b hb => by
    rcases hb with ⟨h1, h2, _⟩ | h1
    · refine r5.block b (Nat.lt_of_lt_of_le h1 hM.fr.size) fun hm => ?_
      rcases q32 b hm with h | h
      · exact h2 h
      · omega
    · exact r5.block b (hM.fz b h1).2 fun hm => q4 b hm h1
  have hss : ∀ b, still c E b → still c E' b := fun b hb => by simpa [still, ef] using hb
  have hupd : ∀ k A, gUpd g' [(j, some (.rnd t (l.drop 1)))] k = some A → (k = j ∧ A = .rnd t (l.drop 1)) ∨ (k ≠ j ∧ g' k = some A ∧ ¬ A.isRnd) := by
    intro k A hA
    simp only [gUpd] at hA
    by_cases e : k = j
    · subst e
      simp only [if_true, Option.some.injEq] at hA
      exact .inl ⟨rfl, hA.symm⟩
    · rw [if_neg e] at hA
      refine .inr ⟨e, hA, fun hr => ?_⟩
      cases A with
      | rnd t' l' =>
        have := (hM.at_ k _ hA).2.2.1.1.1
        exact e (this.trans q30.symm)
      | _ => exact hr
  have hrn : ∀ A : Atom, ¬ A.isRnd → (A.isRnd → E'.rb = E.rb ∧ E'.ri = E.ri) ∧ E'.pb = E.pb := fun A h => ⟨fun h' => absurd h' h, ep⟩
  have hrn2 : ∀ A : Atom, ¬ A.isRnd → (A.isRnd → E'.rb = E.rb) ∧ E'.pb = E.pb := fun A h => ⟨fun h' => absurd h' h, ep⟩
  have hfoot : ∀ k A, g' k = some A → ¬ A.isRnd → footOf E' k A = footOf E k A := fun k A hA hr => footOf_agree2 hag (hM.at_ k A hA).1 A (hrn2 A hr)
  have hout : ∀ k A, k ≠ j → g' k = some A → ∀ b, b ∈ footOf E k A → b ∉ B2 ∧ b < W.heap.size := by
    intro k A hk hA b hb
    have hlt := ((hM.at_ k A hA).2.2.2.2 b hb).1
    refine ⟨fun hm => ?_, hlt⟩
    rcases r4 b hm with h | h
    · exact hM.dj k j A _ hA hgj hk b hb h
    · omega
  refine hn' E' W2 hag ⟨hfr, Nat.le_trans hM.size r5.size, fun b o ho => ?_, fun b hb => ?_, fun k A hA => ?_, fun k k' A A' hA hA' hne b hb hb' => ?_⟩ trivial
  · have := hM.pf b o ho
    rw [ef]
    exact ⟨this.1, (hst b (.inr this.1)).trans this.2⟩
  · rw [ef] at hb
    exact ⟨(hM.fz b hb).1, Nat.lt_of_lt_of_le (hM.fz b hb).2 r5.size⟩
  · rcases hupd k A hA with ⟨rfl, rfl⟩ | ⟨hk, hA, hr⟩
    · refine ⟨.inl q1, trivial, ⟨⟨q30, by rw [eb]; exact q31, by rw [er]; exact hB2⟩, ?_, ?_, ?_, ?_⟩, ?_, ?_⟩
      · rw [ei]
        refine ⟨(List.getElem?_eq_some_iff.1 hxi).1, ?_⟩
        rw [← List.drop_drop, q33, List.map_drop]
      · rw [er]; exact fun b hb => r2 b (q34 b hb)
      · rw [er, ei]; exact r1
      · rw [er, ei]
        exact fun W' h1 h2 h3 h4 h5 => hY.stable _ _ _ _ r1 (Nat.le_trans hM.fr.size r5.size) h1 h2 h3 h4 h5
      · show ∀ b, b ∈ E'.rb → ¬ E'.fz b
        rw [er, ef]
        intro b hb hz
        rcases r4 b hb with h | h
        · exact q4 b h hz
        · have := (hM.fz b hz).2; omega
      · intro b hb
        have hb : b ∈ B2 := by simpa [footOf, er] using hb
        exact ⟨r3 b hb, .inl trivial⟩
    · obtain ⟨s1, s2, s3, s4, s5⟩ := hM.at_ k A hA
      refine ⟨.inl s1, A.ok_mono (fun k hk => .inl hk) s2, s3.mono2 hag (hrn A hr) s1 s2 hM.fr hfr r5.size (fun b hb => ?_) hst hss, A.fzn_same hag s1 (hrn2 A hr) (fun b hb => by rw [ef]) s4, fun b hb => ?_⟩
      · refine r5.block b (s5 b hb).1 fun hm => ?_
        exact hM.dj k j A _ hA hgj hk b hb hm
      · rw [hfoot k A hA hr] at hb
        exact ⟨Nat.lt_of_lt_of_le (s5 b hb).1 r5.size, (s5 b hb).2⟩
  · rcases hupd k A hA with ⟨rfl, rfl⟩ | ⟨hk, hB, hr⟩
    · rcases hupd k' A' hA' with ⟨rfl, rfl⟩ | ⟨hk', hB', hr'⟩
      · exact hne rfl
      · rw [hfoot k' A' hB' hr'] at hb'
        exact (hout k' A' hk' hB' b hb').1 (by simpa [footOf, er] using hb)
    · rw [hfoot k A hB hr] at hb
      rcases hupd k' A' hA' with ⟨rfl, rfl⟩ | ⟨hk', hB', hr'⟩
      · exact (hout k A hk hB b hb).1 (by simpa [footOf, er] using hb')
      · rw [hfoot k' A' hB' hr'] at hb'
        exact hM.dj k k' A A' hB hB' hne b hb hb'
end
end Go.VM

/-
Packing: a state is told anew by shapes and leaves.
-/
set_option linter.unusedVariables false
set_option linter.unusedSimpArgs false
namespace Go.VM
open Go.RowKit

/-- What is written no more when l is frozen. -/
def FZ (E : Env) (M : List (Nat × Atom)) (l : List (Nat × Atom)) (b : Nat) : Prop := E.fz b ∨ ∃ j A B, (j, A) ∈ l ∧ getM j M = some B ∧ b ∈ footOf E j B

/-- Keys in use: from lo on, and the pins. -/
def okK (lo np m k : Nat) : Prop := k < m ∧ (lo ≤ k ∨ k < np)
theorem okK.mono {lo np m m' k : Nat} (h : okK lo np m k) (hm : m ≤ m') : okK lo np m' k := ⟨Nat.lt_of_lt_of_le h.1 hm, h.2⟩

structure PInv (lo : Nat) (M : List (Nat × Atom)) (p : PS) : Prop where
  fz : ∀ j A, (j, A) ∈ p.fz → ∃ B, getM j M = some B ∧ B.canFz
  us : ∀ k j, (k, some j) ∈ p.ren → ∀ A, (j, A) ∉ p.fz
  ds : ∀ k k' j, (k, some j) ∈ p.ren → (k', some j) ∈ p.ren → k = k'
  lt : ∀ k x, (k, x) ∈ p.ren → lo ≤ k ∧ k < p.n
  np : p.np ≤ p.n
  lo : lo ≤ p.n

structure Step (lo : Nat) (M : List (Nat × Atom)) (ps ps' : PS) : Prop where
  n : ps.n ≤ ps'.n
  np : ps'.np = ps.np
  inv : PInv lo M ps'
  ren : ∃ r, ps'.ren = r ++ ps.ren ∧ ∀ k x, (k, x) ∈ r → ps.n ≤ k
  fz : ∀ x, x ∈ ps.fz → x ∈ ps'.fz

theorem Step.refl {lo : Nat} {M : List (Nat × Atom)} {ps : PS} (h : PInv lo M ps) : Step lo M ps ps := ⟨Nat.le_refl _, rfl, h, ⟨[], rfl, by simp⟩, fun _ h => h⟩
theorem Step.trans {lo : Nat} {M : List (Nat × Atom)} {a b c : PS} (h : Step lo M a b) (h' : Step lo M b c) : Step lo M a c := by
  obtain ⟨r, e, he⟩ := h.ren
  obtain ⟨r', e', he'⟩ := h'.ren
  refine ⟨Nat.le_trans h.n h'.n, h'.np.trans h.np, h'.inv, ⟨r' ++ r, by rw [e', e, List.append_assoc], fun k x hk => ?_⟩, fun x hx => h'.fz x (h.fz x hx)⟩
  rw [List.mem_append] at hk
  rcases hk with hk | hk
  · exact Nat.le_trans h.n (he' k x hk)
  · exact he k x hk
theorem Step.mem {lo : Nat} {M : List (Nat × Atom)} {a b : PS} (h : Step lo M a b) {y : Nat × Option Nat} (hy : y ∈ a.ren) : y ∈ b.ren := by
  obtain ⟨r, e, _⟩ := h.ren
  rw [e]
  exact List.mem_append_right _ hy
theorem PInv.lv {lo : Nat} {M : List (Nat × Atom)} {p p' : PS} (h : PInv lo M p) (e : p'.ren = p.ren ∧ p'.n = p.n ∧ p'.fz = p.fz ∧ p'.np = p.np) : PInv lo M p' := by
  obtain ⟨e1, e2, e3, e4⟩ := e
  exact ⟨by rw [e3]; exact h.fz, by rw [e1, e3]; exact h.us, by rw [e1]; exact h.ds, by rw [e1, e2]; exact h.lt, by rw [e4, e2]; exact h.np, by rw [e2]; exact h.lo⟩

theorem usedN_not {j : Nat} : ∀ {l : List (Nat × Option Nat)}, usedN j l = false → ∀ k, (k, some j) ∉ l
  | [], _, k, hk => by simp at hk
  | (i, x) :: r, h, k, hk => by
    simp only [usedN] at h
    simp only [List.mem_cons, Prod.mk.injEq] at hk
    rcases hk with ⟨rfl, rfl⟩ | hk
    · simp [show Nat.beq j j = true from Nat.beq_refl j] at h
    · refine usedN_not ?_ k hk
      split at h
      · split at h
        · cases h
        · exact h
      · exact h
theorem notUsed_not {ren : List (Nat × Option Nat)} : ∀ {f : List (Nat × Atom)}, notUsed f ren = true → ∀ j A, (j, A) ∈ f → ∀ k, (k, some j) ∉ ren
  | [], _, j, A, h => by simp at h
  | (i, B) :: r, h, j, A, hj => by
    simp only [notUsed] at h
    split at h
    · cases h
    · rename_i hu
      simp only [List.mem_cons, Prod.mk.injEq] at hj
      rcases hj with ⟨rfl, rfl⟩ | hj
      · exact usedN_not hu
      · exact notUsed_not h j A hj
theorem appF_eq : ∀ (a b : List (Nat × Atom)), appF a b = a ++ b
  | [], b => rfl
  | x :: r, b => by simp [appF, appF_eq r b]
theorem renOf_mem {k i : Nat} : ∀ {l : List (Nat × Option Nat)}, renOf k l = some i → (k, some i) ∈ l
  | [], h => by simp [renOf] at h
  | (j, x) :: r, h => by
    simp only [renOf] at h
    cases hb : Nat.beq j k with
    | true =>
      simp only [hb] at h
      have := Nat.eq_of_beq_eq_true hb
      subst this
      subst h
      simp
    | false =>
      simp only [hb] at h
      exact List.mem_cons_of_mem _ (renOf_mem h)

/-- A new key. -/
theorem step_new {lo : Nat} {M : List (Nat × Atom)} {ps : PS} (h : PInv lo M ps) {lv : List Leaf} {r : Option Nat} {f : List (Nat × Atom)} (hf : ∀ j A, (j, A) ∈ f → ∃ B, getM j M = some B ∧ B.canFz) (hu : ∀ j A, (j, A) ∈ f → ∀ k, (k, some j) ∉ ps.ren)
    (hr : ∀ j, r = some j → (∀ A, (j, A) ∉ f) ∧ (∀ A, (j, A) ∉ ps.fz) ∧ ∀ k, (k, some j) ∉ ps.ren) : Step lo M ps ⟨lv, (ps.n, r) :: ps.ren, ps.n + 1, f ++ ps.fz, ps.np⟩ := by
  refine ⟨Nat.le_succ _, rfl, ⟨fun j A hA => ?_, fun k j hk A hA => ?_, fun k k' j hk hk' => ?_, fun k x hk => ?_, Nat.le_succ_of_le h.np, Nat.le_succ_of_le h.lo⟩, ⟨[(ps.n, r)], rfl, by simp⟩, fun x hx => List.mem_append_right _ hx⟩
  · rw [List.mem_append] at hA
    exact hA.elim (hf j A) (h.fz j A)
  · simp only [List.mem_cons, Prod.mk.injEq] at hk
    rw [List.mem_append] at hA
    rcases hk with ⟨rfl, hk⟩ | hk
    · obtain ⟨q1, q2, _⟩ := hr j hk.symm
      exact hA.elim (q1 A) (q2 A)
    · exact hA.elim (fun hA => hu j A hA k hk) (h.us k j hk A)
  · simp only [List.mem_cons, Prod.mk.injEq] at hk hk'
    rcases hk with ⟨rfl, hk⟩ | hk
    · rcases hk' with ⟨rfl, _⟩ | hk'
      · rfl
      · exact absurd hk' ((hr j hk.symm).2.2 k')
    · rcases hk' with ⟨rfl, hk'⟩ | hk'
      · exact absurd hk ((hr j hk'.symm).2.2 k)
      · exact h.ds k k' j hk hk'
  · simp only [List.mem_cons, Prod.mk.injEq] at hk
    rcases hk with ⟨rfl, _⟩ | hk
    · exact ⟨h.lo, Nat.lt_succ_self _⟩
    · exact ⟨(h.lt k x hk).1, Nat.lt_succ_of_lt (h.lt k x hk).2⟩

def Atom.isPin : Atom → Prop
  | .mark => True
  | .pin => True
  | .rnd _ _ => True
  | _ => False

/-- What lies at a new key. -/
structure NewA (lo np : Nat) (c : Ctx) (E E2 : Env) (M : List (Nat × Atom)) (W : World) (ren : List (Nat × Option Nat)) (n m k : Nat) (A : Atom) : Prop where
  ge : n ≤ k
  hi : k < m
  ok : A.ok (okK lo np m)
  at_ : AtomAt c E2 k W A
  fzn : A.fzn E2 k
  feet : footOf E2 k A = [] ∨ ∃ j B, (k, some j) ∈ ren ∧ getM j M = some B ∧ B.canFz ∧ footOf E2 k A = footOf E j B
  nr : ¬ A.isPin
  nf : ∀ b, b ∈ footOf E2 k A → ¬ E2.fz b

theorem NewA.mono {lo np : Nat} {c : Ctx} {E E2 : Env} {M : List (Nat × Atom)} {W : World} {ren ren' : List (Nat × Option Nat)} {n n' m m' k : Nat} {A : Atom} (h : NewA lo np c E E2 M W ren n m k A) (hr : ∀ x, x ∈ ren → x ∈ ren') (hn : n' ≤ n) (hm : m ≤ m') : NewA lo np c E E2 M W ren' n' m' k A :=
  ⟨Nat.le_trans hn h.ge, Nat.lt_of_lt_of_le h.hi hm, A.ok_mono (fun k hk => hk.mono hm) h.ok, h.at_, h.fzn, h.feet.imp id fun ⟨j, B, h1, h2⟩ => ⟨j, B, hr _ h1, h2⟩, h.nr, h.nf⟩

/-- What packing says of values, whatever the environment, if it knows the new keys. -/
def PSem (lo : Nat) (c : Ctx) (E : Env) (M : List (Nat × Atom)) (W : World) (ps ps' : PS) (M' : List (Nat × Atom)) (Q : Env → Prop) : Prop :=
  ∀ fzF : List (Nat × Atom), (∀ x, x ∈ ps'.fz → x ∈ fzF) → (∀ k j, (k, some j) ∈ ps'.ren → ∀ A, (j, A) ∉ fzF) →
    ∃ (σb : Nat → Nat) (σs : Nat → Option Addr × Nat × Nat), ∀ E2 : Env, (∀ b, E2.fz b ↔ FZ E M fzF b) → (∀ k, ps.n ≤ k → k < ps'.n → E2.blk k = σb k ∧ E2.slv k = σs k) → (∀ k j, (k, some j) ∈ ps.ren → E2.blk k = E.blk j) → (0 < ps.np → E2.blk 0 = E.blk 0) →
      (∀ k j, (k, some j) ∈ ps'.ren → E2.blk k = E.blk j) ∧ Q E2 ∧ ∀ k A, (k, A) ∈ M' → NewA lo ps.np c E E2 M W ps'.ren ps.n ps'.n k A

theorem PSem.comp {lo : Nat} {c : Ctx} {E : Env} {M : List (Nat × Atom)} {W : World} {p0 p1 p2 : PS} {M1 M2 : List (Nat × Atom)} {Q1 Q2 Q : Env → Prop} (h1 : PSem lo c E M W p0 p1 M1 Q1) (h2 : PSem lo c E M W p1 p2 M2 Q2) (s1 : Step lo M p0 p1) (s2 : Step lo M p1 p2) (hQ : ∀ E2, Q1 E2 → Q2 E2 → Q E2) :
    PSem lo c E M W p0 p2 (M1 ++ M2) Q := by
  intro fzF hf hu
  obtain ⟨b1, l1, g1⟩ := h1 fzF (fun x hx => hf x (s2.fz x hx)) fun k j hk => hu k j (s2.mem hk)
  obtain ⟨b2, l2, g2⟩ := h2 fzF hf hu
  refine ⟨fun k => if k < p1.n then b1 k else b2 k, fun k => if k < p1.n then l1 k else l2 k, fun E2 hz hσ hr h0 => ?_⟩
  obtain ⟨q1, q2, q3⟩ := g1 E2 hz (fun k hk hk' => by
    have := hσ k hk (Nat.lt_of_lt_of_le hk' s2.n)
    simpa [hk'] using this) hr h0
  obtain ⟨r1, r2, r3⟩ := g2 E2 hz (fun k hk hk' => by
    have := hσ k (Nat.le_trans s1.n hk) hk'
    simpa [show ¬ k < p1.n from by omega] using this) q1 (by rw [s1.np]; exact h0)
  refine ⟨r1, hQ E2 q2 r2, fun k A hk => ?_⟩
  rw [List.mem_append] at hk
  rcases hk with hk | hk
  · exact (q3 k A hk).mono (fun x hx => s2.mem hx) (Nat.le_refl _) s2.n
  · have := (r3 k A hk).mono (fun x hx => hx) s1.n (Nat.le_refl _)
    rwa [s1.np] at this

theorem PSem.same {lo : Nat} {c : Ctx} {E : Env} {M : List (Nat × Atom)} {W : World} {ps ps' : PS} (e : ps'.ren = ps.ren) {Q : Env → Prop} (h : ∀ E2 : Env, (∀ k j, (k, some j) ∈ ps.ren → E2.blk k = E.blk j) → (0 < ps.np → E2.blk 0 = E.blk 0) → Q E2) : PSem lo c E M W ps ps' [] Q := by
  intro fzF hf hu
  refine ⟨fun _ => 0, fun _ => (none, 0, 0), fun E2 hz hσ hr h0 => ⟨by rw [e]; exact hr, h E2 hr h0, by simp⟩⟩

theorem leaf0_int {M : List (Nat × Atom)} {t : Option Ty} {s : SV} {k : IntKind} {z : Int} (h : leaf0 M false t s = some (.int k z)) : s = .v (.int k z) := by
  cases s with
  | v y =>
    cases y with
    | int k z => simp [leaf0] at h; obtain ⟨rfl, rfl⟩ := h; rfl
    | bool b => simp [leaf0] at h
    | slice A n q =>
      simp only [leaf0] at h
      split at h
      · split at h <;> simp at h
      · cases h
    | _ => simp [leaf0] at h
  | own j =>
    simp only [leaf0] at h
    split at h <;> simp at h
  | _ => simp [leaf0] at h
theorem leaf0_bool {M : List (Nat × Atom)} {t : Option Ty} {s : SV} {b : Bool} (h : leaf0 M false t s = some (.bool b)) : s = .v (.bool b) := by
  cases s with
  | v y =>
    cases y with
    | int k z => simp [leaf0] at h
    | bool b => simp [leaf0] at h; subst h; rfl
    | slice A n q =>
      simp only [leaf0] at h
      split at h
      · split at h <;> simp at h
      · cases h
    | _ => simp [leaf0] at h
  | own j =>
    simp only [leaf0] at h
    split at h <;> simp at h
  | _ => simp [leaf0] at h

section
variable {c : Ctx} {E : Env} {p : Nat → Prop} {W : World} {M : List (Nat × Atom)}

/-- A key of its own, that is not frozen. -/
theorem not_FZ (hM : SatM c E p (fun k => getM k M) W) {fzF : List (Nat × Atom)} {j : Nat} {B : Atom} (hj : getM j M = some B) (hu : ∀ A, (j, A) ∉ fzF) {b : Nat} (hb : b ∈ footOf E j B) (hn : ¬ E.fz b) : ¬ FZ E M fzF b := by
  rintro (h | ⟨j', A, B', h1, h2, h3⟩)
  · exact hn h
  · exact hM.dj j' j B' B h2 hj (fun e => by subst e; exact hu A h1) b h3 hb

theorem still_FZ {E2 : Env} {fzF : List (Nat × Atom)} (hz : ∀ b, E2.fz b ↔ FZ E M fzF b) : ∀ b, still c E b → still c E2 b := fun b hb => hb.imp id fun h => (hz b).2 (.inl h)

/-- A slice that is read only, told anew. -/
theorem ro_sound (hM : SatM c E p (fun k => getM k M) W) {t : Ty} {s : SV} {l : List t.den} {f : List (Nat × Atom)} (h : roOf M t s = some (l, f)) (hok : s.ok p) :
    (∀ j A, (j, A) ∈ f → ∃ B, getM j M = some B ∧ B.canFz) ∧ ∃ A n q, den E s = .slice A n q ∧ ∀ (E2 : Env) (fzF : List (Nat × Atom)), (∀ x, x ∈ f → x ∈ fzF) → (∀ b, E2.fz b ↔ FZ E M fzF b) → SlT (still c E2) W (Reps (still c E2) W t) t.size A n q l := by
  cases s with
  | own j =>
    simp only [roOf] at h
    split at h
    · rename_i a l' hj
      split at h
      · rename_i q hq
        simp only [Option.some.injEq, Prod.mk.injEq] at h
        obtain ⟨rfl, rfl⟩ := h
        have e := as_slice hq
        injection e with e1 e2
        subst e1
        obtain rfl := eq_of_heq e2
        refine ⟨by simp, _, _, _, rfl, fun E2 fzF _ hz => ?_⟩
        have h3 : SlT _ _ _ _ _ _ _ _ := (hM.at_ j _ hj).2.2.1
        exact h3.mono (still_FZ hz) (fun _ _ => rfl) fun x vs hr => hr.mono (still_FZ hz) fun _ _ => rfl
      · cases h
    · rename_i ty a l' hj
      split at h
      · rename_i q hq
        simp only [Option.some.injEq, Prod.mk.injEq] at h
        obtain ⟨rfl, rfl⟩ := h
        have e := as_slice hq
        injection e with e1 e2
        subst e1
        obtain rfl := eq_of_heq e2
        refine ⟨fun i A hi => ?_, _, _, _, rfl, fun E2 fzF hf hz => ?_⟩
        · simp only [List.mem_singleton, Prod.mk.injEq] at hi
          obtain ⟨rfl, rfl⟩ := hi
          exact ⟨_, hj, trivial⟩
        · refine own_slice (hM.at_ j _ hj).2.2.1 _ (still_FZ hz) fun ad ha => .inr ((hz _).2 (.inr ⟨j, _, _, hf _ (List.mem_singleton.2 rfl), hj, by simp [footOf, ha]⟩))
      · cases h
    · cases h
  | sl j off n q =>
    simp only [roOf] at h
    split at h
    · rename_i cs ty b hj hnq
      split at h
      · rename_i l' hrow
        simp only [Option.some.injEq, Prod.mk.injEq] at h
        obtain ⟨rfl, rfl⟩ := h
        refine ⟨fun i A hi => ?_, _, _, _, rfl, fun E2 fzF hf hz => ?_⟩
        · simp only [List.mem_singleton, Prod.mk.injEq] at hi
          obtain ⟨rfl, rfl⟩ := hi
          exact ⟨_, hj, trivial⟩
        · have hbx : W.heap[E.blk j]? = some (.cells (denL E cs).toArray ty (0, 0)) := (hM.at_ j _ hj).2.2.1
          refine slT_row hM hrow (fun _ _ => rfl) (still_FZ hz) (.inr ((hz _).2 (.inr ⟨j, _, _, hf _ (List.mem_singleton.2 rfl), hj, by simp [footOf]⟩))) (Nat.le_of_ble_eq_true hnq) fun i s hs => ?_
          rw [Addr.add_lit, cell_of_heap hbx, denL_eq, List.getElem?_map]
          rw [dropN_eq, List.getElem?_drop] at hs
          rw [hs]
          rfl
      · cases h
    · cases h
  | v x =>
    simp only [roOf] at h
    split at h
    all_goals first | (rename_i heq; cases heq) | skip
    all_goals first | (simp only [Option.some.injEq, Prod.mk.injEq] at h; obtain ⟨rfl, rfl⟩ := h; exact ⟨by simp, none, 0, 0, rfl, fun E2 fzF _ _ => ⟨rfl, Nat.le_refl _, fun _ => ⟨rfl, rfl⟩, fun i x hx => by simp at hx⟩⟩) | cases h
  | _ => simp [roOf] at h
end
end Go.VM

/-
Packing, second part.
-/
set_option linter.unusedVariables false
set_option linter.unusedSimpArgs false
namespace Go.VM
open Go.RowKit
section
variable {c : Ctx} {E : Env} {p : Nat → Prop} {W : World} {M : List (Nat × Atom)} {lo : Nat}

/-- What dstOf strikes, is its own. -/
theorem dstOf_keys {ty : Nat} {t : Ty} {s : SV} {l : List t.den} {ks rds : List Nat} (h : dstOf M ty t s = some (l, ks, rds)) : (ks = [] ∧ den E s = .slice none 0 0) ∨ ∃ j B, ks = [j] ∧ getM j M = some B ∧ B.canFz ∧ ((∃ q, s = .own j ∧ B = .own ty t q) ∨ ∃ n q cs, s = .sl j 0 n q ∧ B = .box cs ty true) := by
  cases s with
  | own j =>
    simp only [dstOf] at h
    split at h
    · rename_i ty' t' l' hj
      split at h
      · rename_i q hty hq
        simp only [Option.some.injEq, Prod.mk.injEq] at h
        obtain ⟨rfl, rfl, rfl⟩ := h
        have := Nat.eq_of_beq_eq_true hty
        subst this
        have e := as_slice hq
        injection e with e1 e2
        subst e1
        obtain rfl := eq_of_heq e2
        exact .inr ⟨j, _, rfl, hj, trivial, .inl ⟨_, rfl, rfl⟩⟩
      · cases h
    · cases h
  | sl j off n q =>
    cases off with
    | succ off => simp [dstOf] at h
    | zero =>
      simp only [dstOf] at h
      split at h
      · rename_i cs ty' hj hnq
        split at h
        · rename_i l' hty hlen hrow
          simp only [Option.some.injEq, Prod.mk.injEq] at h
          obtain ⟨rfl, rfl, rfl⟩ := h
          have := Nat.eq_of_beq_eq_true hty
          subst this
          exact .inr ⟨j, _, rfl, hj, trivial, .inr ⟨n, q, cs, rfl, rfl⟩⟩
        · cases h
      · cases h
  | v x =>
    simp only [dstOf] at h
    split at h
    all_goals first | (rename_i heq; cases heq) | skip
    all_goals first | (simp only [Option.some.injEq, Prod.mk.injEq] at h; obtain ⟨rfl, rfl, rfl⟩ := h; exact .inl ⟨rfl, rfl⟩) | cases h
  | _ => simp [dstOf] at h

/-- A row of one's own, told anew. -/
theorem own_sound (hM : SatM c E p (fun k => getM k M) W) {key : Nat} (hkey : ∀ q, q < 8 → ¬ p (key + q)) {ty : Nat} {t : Ty} {s : SV} {l : List t.den} {ks rds : List Nat} (h : dstOf M ty t s = some (l, ks, rds)) (hsh : shortS s = true) (hok : s.ok p) :
    ∃ A n q vs, den E s = .slice A n q ∧ W.ownsRow c.w0.heap.size ty t.size (.slice A n q) l.length vs ∧ RepsL (still c E) W t l vs ∧ (∀ b, b ∈ sliceFoot A → ¬ E.fz b) ∧ ((ks = [] ∧ A = none) ∨ ∃ j B, ks = [j] ∧ getM j M = some B ∧ B.canFz ∧ footOf E j B = sliceFoot A) := by
  have hlen : ∀ j o n q, s = .sl j o n q → l.length ≤ 9223372036854775807 := by
    intro j o n q e
    subst e
    simp only [shortS] at hsh
    have hn := Nat.le_of_ble_eq_true hsh
    cases o with
    | succ o => simp [dstOf] at h
    | zero =>
      simp only [dstOf] at h
      split at h
      · split at h
        · rename_i l' hty hlen hrow
          simp only [Option.some.injEq, Prod.mk.injEq] at h
          obtain ⟨rfl, rfl, rfl⟩ := h
          have := (rowOf_rep (ks := []) hM _ _ _ hrow (by simp) (fun _ _ => rfl)).1
          omega
        · cases h
      · cases h
  obtain ⟨_, A, n, q, vs, h1, h2, h3, h4, _⟩ := dst_at (key := key) hM h (fun _ _ _ => rfl) (fun q hq => hkey q hq) hok hlen
  refine ⟨A, n, q, vs, h1, h2, h3, fun b hb => (h4 b hb).2, ?_⟩
  rcases dstOf_keys (E := E) h with ⟨e1, e2⟩ | ⟨j, B, e1, e2, e3, e4⟩
  · rw [h1] at e2
    injection e2 with e2
    exact .inl ⟨e1, e2⟩
  · refine .inr ⟨j, B, e1, e2, e3, ?_⟩
    rcases e4 with ⟨q', rfl, rfl⟩ | ⟨n', q', cs, rfl, rfl⟩
    · simp only [den] at h1
      injection h1 with h1
      rw [← h1]
      cases h : (E.slv j).1 <;> simp [footOf, sliceFoot, h]
    · simp only [den] at h1
      injection h1 with h1
      rw [← h1]
      rfl

theorem as_self (t : Ty) (l : List t.den) : (Leaf.sl t l).as (.slice t) = some l := by
  simp only [Leaf.as]
  split
  · rfl
  · rename_i h _
    exact absurd rfl h

mutual
theorem pack_sound (hM : SatM c E p (fun k => getM k M) W) {key : Nat} (hkey : ∀ q, q < 8 → ¬ p (key + q)) : ∀ (x : Sk) (s : SV) (ps ps' : PS), x.pack M s ps = some ps' → s.ok p → PInv lo M ps →
    Step lo M ps ps' ∧ ∃ add s' M', ps'.lv = add.reverse ++ ps.lv ∧ (∀ rest, x.fill ps.n (add ++ rest) = some (s', M', ps'.n, rest)) ∧ s'.ok (okK lo ps'.np ps'.n) ∧ PSem lo c E M W ps ps' M' fun E2 => den E2 s' = den E s
  | .int k, s, ps, ps', h, hok, hI => by
    simp only [Sk.pack] at h
    split at h
    · rename_i k' z hs
      split at h
      · rename_i hk
        injection h with h
        have hk := of_decide_eq_true hk
        subst hk h
        have := leaf0_int hs
        subst this
        refine ⟨⟨Nat.le_refl _, rfl, hI.lv ⟨rfl, rfl, rfl, rfl⟩, ⟨[], rfl, by simp⟩, fun _ h => h⟩, [.int k z], .v (.int k z), [], rfl, fun rest => by simp [Sk.fill], trivial, PSem.same rfl fun _ _ _ => rfl⟩
      · cases h
    · cases h
  | .bool, s, ps, ps', h, hok, hI => by
    simp only [Sk.pack] at h
    split at h
    · rename_i b hs
      injection h with h
      subst h
      have := leaf0_bool hs
      subst this
      refine ⟨⟨Nat.le_refl _, rfl, hI.lv ⟨rfl, rfl, rfl, rfl⟩, ⟨[], rfl, by simp⟩, fun _ h => h⟩, [.bool b], .v (.bool b), [], rfl, fun rest => by simp [Sk.fill], trivial, PSem.same rfl fun _ _ _ => rfl⟩
    · cases h
  | .ro t, s, ps, ps', h, hok, hI => by
    simp only [Sk.pack] at h
    split at h
    · rename_i l f hr
      split at h
      · rename_i hu
        injection h with h
        subst h
        rw [appF_eq]
        obtain ⟨hf, A, n, q, hd, hs⟩ := ro_sound hM hr hok
        refine ⟨step_new hI hf (fun j A hA => notUsed_not hu j A hA) (by simp), [.sl t l], .own ps.n, [(ps.n, .ro t l)], rfl, fun rest => ?_, ⟨Nat.lt_succ_self _, .inl hI.lo⟩, fun fzF hfz hus => ⟨fun _ => 0, fun _ => (A, n, q), fun E2 hz hσ hr0 h0 => ?_⟩⟩
        · simp [Sk.fill, as_self]
        · have hn := (hσ ps.n (Nat.le_refl _) (Nat.lt_succ_self _)).2
          refine ⟨fun k j hk => ?_, by simp only [den, hn, hd], fun k B hB => ?_⟩
          · simp only [List.mem_cons, Prod.mk.injEq] at hk
            rcases hk with ⟨_, hk⟩ | hk
            · cases hk
            · exact hr0 k j hk
          · simp only [List.mem_singleton, Prod.mk.injEq] at hB
            obtain ⟨rfl, rfl⟩ := hB
            refine ⟨Nat.le_refl _, Nat.lt_succ_self _, trivial, ?_, trivial, .inl rfl, id, by simp [footOf]⟩
            simp only [AtomAt, hn]
            exact hs E2 fzF (fun x hx => hfz x (List.mem_append_left _ hx)) hz
      · cases h
    · cases h
  | .own ty t, s, ps, ps', h, hok, hI => by
    simp only [Sk.pack] at h
    split at h
    rotate_left
    · cases h
    rename_i l ks rds hd hsh
    obtain ⟨A, n, q, vs, e1, e2, e3, e4, e5⟩ := own_sound hM hkey hd hsh hok
    have hfill : ∀ rest, (Sk.own ty t).fill ps.n ([Leaf.sl t l] ++ rest) = some (.own ps.n, [(ps.n, .own ty t l)], ps.n + 1, rest) := fun rest => by
      simp [Sk.fill, as_self]
    have fin : ∀ (r : Option Nat), ((r = none ∧ A = none) ∨ ∃ j B, r = some j ∧ getM j M = some B ∧ B.canFz ∧ footOf E j B = sliceFoot A) →
        PSem lo c E M W ps ⟨.sl t l :: ps.lv, (ps.n, r) :: ps.ren, ps.n + 1, ps.fz, ps.np⟩ [(ps.n, .own ty t l)] fun E2 => den E2 (.own ps.n) = den E s := by
      intro r hr fzF hfz hus
      refine ⟨fun _ => (r.map E.blk).getD 0, fun _ => (A, n, q), fun E2 hz hσ hr0 h0 => ?_⟩
      obtain ⟨hbk, hn⟩ := hσ ps.n (Nat.le_refl _) (Nat.lt_succ_self _)
      refine ⟨fun k j hk => ?_, by simp only [den, hn, e1], fun k B hB => ?_⟩
      · simp only [List.mem_cons, Prod.mk.injEq] at hk
        rcases hk with ⟨rfl, rfl⟩ | hk
        · exact hbk
        · exact hr0 k j hk
      · simp only [List.mem_singleton, Prod.mk.injEq] at hB
        obtain ⟨rfl, rfl⟩ := hB
        have hft : footOf E2 ps.n (.own ty t l) = sliceFoot A := by cases A <;> simp [footOf, sliceFoot, hn]
        have hnf : ∀ b, b ∈ sliceFoot A → ¬ E2.fz b := by
          intro b hb hzb
          rw [hz] at hzb
          rcases hr with ⟨_, rfl⟩ | ⟨j, B, rfl, hj, _, hfo⟩
          · simp [sliceFoot] at hb
          · exact not_FZ hM hj (hus ps.n j (by simp)) (by rw [hfo]; exact hb) (e4 b hb) hzb
        refine ⟨Nat.le_refl _, Nat.lt_succ_self _, trivial, ?_, ?_, ?_, id, by rw [hft]; exact hnf⟩
        · simp only [AtomAt, den, hn]
          exact ⟨vs, e2, e3.mono (still_FZ hz) fun _ _ => rfl⟩
        · intro a ha
          rw [hn] at ha
          subst ha
          exact hnf _ (by simp [sliceFoot])
        · rw [hft]
          rcases hr with ⟨_, rfl⟩ | ⟨j, B, rfl, hj, hc, hfo⟩
          · exact .inl rfl
          · exact .inr ⟨j, B, by simp, hj, hc, hfo.symm⟩
    split at h
    · injection h with h
      subst h
      refine ⟨step_new (f := []) hI (by simp) (by simp) (by simp), [.sl t l], .own ps.n, _, rfl, hfill, ⟨Nat.lt_succ_self _, .inl hI.lo⟩, fin none (.inl ⟨rfl, ?_⟩)⟩
      rcases e5 with ⟨_, e⟩ | ⟨j, B, e, _⟩
      · exact e
      · cases e
    · rename_i j
      split at h
      · rename_i hu hk
        injection h with h
        subst h
        refine ⟨step_new (f := []) hI (by simp) (by simp) (fun i hi => by injection hi with hi; subst hi; exact ⟨by simp, hasK_mem hk, usedN_not hu⟩), [.sl t l], .own ps.n, _, rfl, hfill, ⟨Nat.lt_succ_self _, .inl hI.lo⟩, fin (some j) (.inr ?_)⟩
        rcases e5 with ⟨e, _⟩ | ⟨j', B, e, q1, q2, q3⟩
        · cases e
        · injection e with e _
          subst e
          exact ⟨_, B, rfl, q1, q2, q3⟩
      · cases h
    · cases h
  | .box cs ty off, s, ps, ps', h, hok, hI => by
    simp only [Sk.pack] at h
    split at h
    rotate_left
    · cases h
    rename_i j off'
    split at h
    rotate_left
    · cases h
    rename_i ss ty' hj
    split at h
    rotate_left
    · cases h
    rename_i ho hty hu hk
    have := Nat.eq_of_beq_eq_true ho
    subst this
    have := Nat.eq_of_beq_eq_true hty
    subst this
    obtain ⟨_, hss, hbx, hfz, _⟩ := hM.at_ j _ hj
    have s1 := step_new (lv := ps.lv) (r := some j) (f := []) hI (by simp) (by simp) (fun i hi => by injection hi with hi; subst hi; exact ⟨by simp, hasK_mem hk, usedN_not hu⟩)
    rw [List.nil_append] at s1
    obtain ⟨s2, add, ss', M', q1, q2, q3, q4⟩ := packL_sound hM hkey cs ss _ ps' h hss s1.inv
    refine ⟨s1.trans s2, add, .ptr ps.n off, (ps.n, .box ss' ty true) :: M', q1, fun rest => ?_, ⟨Nat.lt_of_lt_of_le (Nat.lt_succ_self _) s2.n, .inl hI.lo⟩, fun fzF hf hus => ?_⟩
    · simp only [Sk.fill, q2 rest]
    · obtain ⟨σb, σs, hg⟩ := q4 fzF hf hus
      refine ⟨fun k => if k = ps.n then E.blk j else σb k, σs, fun E2 hz hσ hr0 h0 => ?_⟩
      have hb : E2.blk ps.n = E.blk j := by
        have := (hσ ps.n (Nat.le_refl _) (Nat.lt_of_lt_of_le (Nat.lt_succ_self _) s2.n)).1
        simpa using this
      obtain ⟨r1, r2, r3⟩ := hg E2 hz (fun k hk1 hk2 => by
        have := hσ k (Nat.le_of_succ_le hk1) hk2
        have hne : k ≠ ps.n := by intro e; subst e; exact absurd hk1 (Nat.not_succ_le_self _)
        simpa [hne] using this) (fun k i hk' => by
        simp only [List.mem_cons, Prod.mk.injEq] at hk'
        rcases hk' with ⟨rfl, e⟩ | hk'
        · injection e with e; subst e; exact hb
        · exact hr0 k i hk') h0
      refine ⟨r1, by simp only [den, hb], fun k A hA => ?_⟩
      simp only [List.mem_cons, Prod.mk.injEq] at hA
      rcases hA with ⟨rfl, rfl⟩ | hA
      · have hm : (ps.n, some j) ∈ ps'.ren := s2.mem (by simp)
        refine ⟨Nat.le_refl _, Nat.lt_of_lt_of_le (Nat.lt_succ_self _) s2.n, by have h3 := q3; rw [s2.np] at h3; exact h3, ?_, ?_, .inr ⟨j, _, hm, hj, trivial, by simp [footOf, hb]⟩, id, ?_⟩
        · simp only [AtomAt, hb]
          rw [r2]
          exact hbx
        · simp only [Atom.fzn, hb]
          have : ¬ E.fz (E.blk j) := by simpa [Atom.fzn] using hfz
          have := not_FZ hM hj (hus _ j hm) (b := E.blk j) (by simp [footOf]) this
          rw [hz]
          simp [this]
        · simp only [footOf, hb, List.mem_singleton, forall_eq]
          have : ¬ E.fz (E.blk j) := by simpa [Atom.fzn] using hfz
          rw [hz]
          exact not_FZ hM hj (hus _ j hm) (b := E.blk j) (by simp [footOf]) this
      · exact (r3 k A hA).mono (fun _ h => h) (Nat.le_succ _) (Nat.le_refl _)
  | .ref k off, s, ps, ps', h, hok, hI => by
    simp only [Sk.pack] at h
    split at h
    rotate_left
    · cases h
    rename_i j off'
    split at h
    rotate_left
    · cases h
    rename_i i hi
    split at h
    rotate_left
    · cases h
    rename_i hij ho
    have := Nat.eq_of_beq_eq_true ho
    subst this
    have := Nat.eq_of_beq_eq_true hij
    subst this
    injection h with h
    subst h
    have hm := renOf_mem hi
    exact ⟨Step.refl hI, [], .ptr k off, [], rfl, fun rest => rfl, ⟨(hI.lt _ _ hm).2, .inl (hI.lt _ _ hm).1⟩, PSem.same rfl fun E2 hr0 h0 => by simp only [den, hr0 k i hm]⟩
  | .ptr cs off, s, ps, ps', h, hok, hI => by
    simp only [Sk.pack] at h
    split at h
    · rename_i j off'
      split at h
      rotate_left
      · cases h
      rename_i ss ty b hj
      split at h
      rotate_left
      · cases h
      rename_i ho hu
      have := Nat.eq_of_beq_eq_true ho
      subst this
      obtain ⟨_, hss, hbx, hfz, _⟩ := hM.at_ j _ hj
      have s1 := step_new (lv := ps.lv) (r := none) (f := [(j, .box ss ty false)]) hI (fun i A hA => by
        simp only [List.mem_singleton, Prod.mk.injEq] at hA
        obtain ⟨rfl, rfl⟩ := hA
        exact ⟨_, hj, trivial⟩) (fun i A hA => by
        simp only [List.mem_singleton, Prod.mk.injEq] at hA
        obtain ⟨rfl, rfl⟩ := hA
        exact usedN_not hu) (by simp)
      rw [List.singleton_append] at s1
      obtain ⟨s2, add, ss', M', q1, q2, q3, q4⟩ := packL_sound hM hkey cs ss _ ps' h hss s1.inv
      refine ⟨s1.trans s2, add, .eptr ps.n 0 0 off, (ps.n, .rop ss') :: M', q1, fun rest => ?_, ⟨Nat.lt_of_lt_of_le (Nat.lt_succ_self _) s2.n, .inl hI.lo⟩, fun fzF hf hus => ?_⟩
      · simp only [Sk.fill, q2 rest]
      · obtain ⟨σb, σs, hg⟩ := q4 fzF hf hus
        refine ⟨σb, fun k => if k = ps.n then (some ⟨E.blk j, 0, none⟩, 0, 0) else σs k, fun E2 hz hσ hr0 h0 => ?_⟩
        have hn : E2.slv ps.n = (some ⟨E.blk j, 0, none⟩, 0, 0) := by
          have := (hσ ps.n (Nat.le_refl _) (Nat.lt_of_lt_of_le (Nat.lt_succ_self _) s2.n)).2
          simpa using this
        obtain ⟨r1, r2, r3⟩ := hg E2 hz (fun k hk1 hk2 => by
          have := hσ k (Nat.le_of_succ_le hk1) hk2
          have hne : k ≠ ps.n := by intro e; subst e; exact absurd hk1 (Nat.not_succ_le_self _)
          simpa [hne] using this) (fun k i hk' => by
          simp only [List.mem_cons, Prod.mk.injEq] at hk'
          rcases hk' with ⟨_, e⟩ | hk'
          · cases e
          · exact hr0 k i hk') h0
        refine ⟨r1, by simp [den, hn, Addr.add_lit], fun k A hA => ?_⟩
        simp only [List.mem_cons, Prod.mk.injEq] at hA
        rcases hA with ⟨rfl, rfl⟩ | hA
        · refine ⟨Nat.le_refl _, Nat.lt_of_lt_of_le (Nat.lt_succ_self _) s2.n, by have h3 := q3; rw [s2.np] at h3; exact h3, ⟨⟨E.blk j, 0, none⟩, by rw [hn], .inr ((hz _).2 (.inr ⟨j, _, _, hf _ (s2.fz _ (List.mem_cons_self ..)), hj, by simp [footOf]⟩)), fun i s' hs => ?_⟩, trivial, .inl rfl, id, by simp [footOf]⟩
          rw [Addr.add_lit, cell_of_heap hbx]
          rw [← r2, denL_eq, List.getElem?_map, Nat.zero_add, hs]
          rfl
        · exact (r3 k A hA).mono (fun _ h => h) (Nat.le_succ _) (Nat.le_refl _)
    · rename_i j i k off'
      split at h
      rotate_left
      · cases h
      rename_i ss hj
      split at h
      rotate_left
      · cases h
      rename_i ho
      have := Nat.eq_of_beq_eq_true ho
      subst this
      obtain ⟨_, hss, ⟨a, ha, hst, hcell⟩, hfz, _⟩ := hM.at_ j _ hj
      have s1 := step_new (lv := ps.lv) (r := none) (f := []) hI (by simp) (by simp) (by simp)
      rw [List.nil_append] at s1
      obtain ⟨s2, add, ss', M', q1, q2, q3, q4⟩ := packL_sound hM hkey cs ss _ ps' h hss s1.inv
      refine ⟨s1.trans s2, add, .eptr ps.n 0 0 off, (ps.n, .rop ss') :: M', q1, fun rest => ?_, ⟨Nat.lt_of_lt_of_le (Nat.lt_succ_self _) s2.n, .inl hI.lo⟩, fun fzF hf hus => ?_⟩
      · simp only [Sk.fill, q2 rest]
      · obtain ⟨σb, σs, hg⟩ := q4 fzF hf hus
        refine ⟨σb, fun k => if k = ps.n then E.slv j else σs k, fun E2 hz hσ hr0 h0 => ?_⟩
        have hn : E2.slv ps.n = E.slv j := by
          have := (hσ ps.n (Nat.le_refl _) (Nat.lt_of_lt_of_le (Nat.lt_succ_self _) s2.n)).2
          simpa using this
        obtain ⟨r1, r2, r3⟩ := hg E2 hz (fun k hk1 hk2 => by
          have := hσ k (Nat.le_of_succ_le hk1) hk2
          have hne : k ≠ ps.n := by intro e; subst e; exact absurd hk1 (Nat.not_succ_le_self _)
          simpa [hne] using this) (fun k i hk' => by
          simp only [List.mem_cons, Prod.mk.injEq] at hk'
          rcases hk' with ⟨_, e⟩ | hk'
          · cases e
          · exact hr0 k i hk') h0
        refine ⟨r1, by simp only [den, hn], fun k A hA => ?_⟩
        simp only [List.mem_cons, Prod.mk.injEq] at hA
        rcases hA with ⟨rfl, rfl⟩ | hA
        · refine ⟨Nat.le_refl _, Nat.lt_of_lt_of_le (Nat.lt_succ_self _) s2.n, by have h3 := q3; rw [s2.np] at h3; exact h3, ⟨a, by rw [hn]; exact ha, still_FZ hz _ hst, fun i s' hs => ?_⟩, trivial, .inl rfl, id, by simp [footOf]⟩
          have : (denL E2 ss')[i]? = some (den E2 s') := by rw [denL_eq, List.getElem?_map, hs]; rfl
          rw [r2, denL_eq, List.getElem?_map] at this
          cases hi : ss[i]? with
          | none => simp [hi] at this
          | some s0 =>
            simp only [hi, Option.map_some, Option.some.injEq] at this
            rw [← this]
            exact hcell i s0 hi
        · exact (r3 k A hA).mono (fun _ h => h) (Nat.le_succ _) (Nat.le_refl _)
    · cases h
  | .fn g a b, s, ps, ps', h, hok, hI => by
    simp only [Sk.pack] at h
    split at h
    · rename_i g' x y
      split at h
      rotate_left
      · cases h
      rename_i hg
      have := Nat.eq_of_beq_eq_true hg
      subst this
      split at h
      rotate_left
      · cases h
      rename_i p1 h1
      obtain ⟨s1, add1, x', M1, q1, q2, q3, q4⟩ := packL_sound hM hkey a x ps p1 h1 hok.1 hI
      obtain ⟨s2, add2, y', M2, r1, r2, r3, r4⟩ := packL_sound hM hkey b y p1 ps' h hok.2 s1.inv
      refine ⟨s1.trans s2, add1 ++ add2, .fn (.func g) x' y', M1 ++ M2, by rw [r1, q1]; simp, fun rest => ?_, ⟨okL_mono (fun k hk => by rw [s2.np]; exact hk.mono s2.n) x' q3, r3⟩, q4.comp r4 s1 s2 fun E2 h1 h2 => by simp only [den, h1, h2]⟩
      simp only [Sk.fill, List.append_assoc, q2, r2]
    · rename_i g' x y
      split at h
      · rename_i hg hx hy
        have := Nat.eq_of_beq_eq_true hg
        subst this
        injection h with h
        subst h
        have ex : x = #[] := by rw [← Array.toArray_toList (xs := x), hx]
        have ey : y = #[] := by rw [← Array.toArray_toList (xs := y), hy]
        subst ex ey
        exact ⟨Step.refl hI, [], .fn (.func g) [] [], [], rfl, fun rest => rfl, ⟨trivial, trivial⟩, PSem.same rfl fun E2 _ _ => rfl⟩
      · cases h
    · cases h
  | .agg cs, s, ps, ps', h, hok, hI => by
    simp only [Sk.pack] at h
    split at h
    · rename_i ss
      obtain ⟨s1, add, ss', M', q1, q2, q3, q4⟩ := packL_sound hM hkey cs ss ps ps' h hok hI
      refine ⟨s1, add, .agg ss', M', q1, fun rest => by simp only [Sk.fill, q2], q3, fun fzF hf hus => ?_⟩
      obtain ⟨σb, σs, hg⟩ := q4 fzF hf hus
      exact ⟨σb, σs, fun E2 h1 h2 h3 h4 => by obtain ⟨r1, r2, r3⟩ := hg E2 h1 h2 h3 h4; exact ⟨r1, by simp only [den, r2], r3⟩⟩
    · rename_i xs
      obtain ⟨s1, add, ss', M', q1, q2, q3, q4⟩ := packL_sound hM hkey cs (vals xs.toList) ps ps' h (okL_vals p _) hI
      refine ⟨s1, add, .agg ss', M', q1, fun rest => by simp only [Sk.fill, q2], q3, fun fzF hf hus => ?_⟩
      obtain ⟨σb, σs, hg⟩ := q4 fzF hf hus
      exact ⟨σb, σs, fun E2 h1 h2 h3 h4 => by obtain ⟨r1, r2, r3⟩ := hg E2 h1 h2 h3 h4; exact ⟨r1, by simp only [den, r2, denL_vals], r3⟩⟩
    · cases h
  | .tup cs, s, ps, ps', h, hok, hI => by
    simp only [Sk.pack] at h
    split at h
    · rename_i ss
      obtain ⟨s1, add, ss', M', q1, q2, q3, q4⟩ := packL_sound hM hkey cs ss ps ps' h hok hI
      refine ⟨s1, add, .tup ss', M', q1, fun rest => by simp only [Sk.fill, q2], q3, fun fzF hf hus => ?_⟩
      obtain ⟨σb, σs, hg⟩ := q4 fzF hf hus
      exact ⟨σb, σs, fun E2 h1 h2 h3 h4 => by obtain ⟨r1, r2, r3⟩ := hg E2 h1 h2 h3 h4; exact ⟨r1, by simp only [den, r2], r3⟩⟩
    · cases h
  | .nilp, s, ps, ps', h, hok, hI => by
    simp only [Sk.pack] at h
    split at h
    · injection h with h
      subst h
      exact ⟨Step.refl hI, [], .v (.pointer none), [], rfl, fun rest => rfl, trivial, PSem.same rfl fun E2 _ _ => rfl⟩
    · cases h
  | .yf, s, ps, ps', h, hok, hI => by
    simp only [Sk.pack] at h
    split at h
    · rename_i m hm
      injection h with h
      subst h
      have := hI.np
      exact ⟨Step.refl hI, [], .yf 0, [], rfl, fun rest => rfl, ⟨by omega, .inr (by omega)⟩, PSem.same rfl fun E2 _ h0 => by simp only [den, h0 (by omega)]⟩
    · cases h
theorem packL_sound (hM : SatM c E p (fun k => getM k M) W) {key : Nat} (hkey : ∀ q, q < 8 → ¬ p (key + q)) : ∀ (xs : List Sk) (ss : List SV) (ps ps' : PS), packL M xs ss ps = some ps' → okL p ss → PInv lo M ps →
    Step lo M ps ps' ∧ ∃ add ss' M', ps'.lv = add.reverse ++ ps.lv ∧ (∀ rest, fillL xs ps.n (add ++ rest) = some (ss', M', ps'.n, rest)) ∧ okL (okK lo ps'.np ps'.n) ss' ∧ PSem lo c E M W ps ps' M' fun E2 => denL E2 ss' = denL E ss
  | [], ss, ps, ps', h, hok, hI => by
    simp only [packL] at h
    split at h
    · injection h with h
      subst h
      exact ⟨Step.refl hI, [], [], [], rfl, fun rest => rfl, trivial, PSem.same rfl fun E2 _ _ => rfl⟩
    · cases h
  | x :: q, ss, ps, ps', h, hok, hI => by
    simp only [packL] at h
    split at h
    · cases h
    · rename_i s r
      split at h
      · rename_i p1 h1
        obtain ⟨s1, add1, x', M1, q1, q2, q3, q4⟩ := pack_sound hM hkey x s ps p1 h1 hok.1 hI
        obtain ⟨s2, add2, y', M2, r1, r2, r3, r4⟩ := packL_sound hM hkey q r p1 ps' h hok.2 s1.inv
        refine ⟨s1.trans s2, add1 ++ add2, x' :: y', M1 ++ M2, by rw [r1, q1]; simp, fun rest => ?_, ⟨ok_mono (fun k hk => by rw [s2.np]; exact hk.mono s2.n) x' q3, r3⟩, q4.comp r4 s1 s2 fun E2 h1 h2 => by simp only [denL, h1, h2]⟩
        simp only [fillL, List.append_assoc, q2, r2]
      · cases h
end
end
end Go.VM

/-
Calls that write into what they are handed: keys renamed, values handed in and out.
-/
set_option linter.unusedVariables false
set_option linter.unusedSimpArgs false
namespace Go.VM
open Go.RowKit

/-! ### Renaming -/
section
variable {E E' : Env} {q : Nat → Prop} {f : Nat → Nat}
mutual
theorem den_rn (h : ∀ k, q k → E'.blk (f k) = E.blk k ∧ E'.slv (f k) = E.slv k) : ∀ s : SV, s.ok q → den E' (rnS f s) = den E s
  | .v _, _ => rfl
  | .ptr j _, hk => by simp only [den, rnS, (h j hk).1]
  | .xptr j _ _ _ _, hk => by simp only [den, rnS, (h j hk).1]
  | .sl j _ _ _, hk => by simp only [den, rnS, (h j hk).1]
  | .own j, hk => by simp only [den, rnS, (h j hk).2]
  | .eptr j _ _ _, hk => by simp only [den, rnS, (h j hk).2]
  | .fn _ x y, hk => by simp only [den, rnS, den_rnL h x hk.1, den_rnL h y hk.2]
  | .agg cs, hk => by simp only [den, rnS, den_rnL h cs hk]
  | .tup cs, hk => by simp only [den, rnS, den_rnL h cs hk]
  | .yf j, hk => by simp only [den, rnS, (h j hk).1]
theorem den_rnL (h : ∀ k, q k → E'.blk (f k) = E.blk k ∧ E'.slv (f k) = E.slv k) : ∀ l : List SV, okL q l → denL E' (rnL f l) = denL E l
  | [], _ => rfl
  | x :: r, hk => by simp only [denL, rnL, den_rn h x hk.1, den_rnL h r hk.2]
end
mutual
theorem ok_rn {p : Nat → Prop} (h : ∀ k, q k → p (f k)) : ∀ s : SV, s.ok q → (rnS f s).ok p
  | .v _, _ => trivial
  | .ptr j _, hk => h j hk
  | .xptr j _ _ _ _, hk => h j hk
  | .sl j _ _ _, hk => h j hk
  | .own j, hk => h j hk
  | .eptr j _ _ _, hk => h j hk
  | .fn _ x y, hk => ⟨okL_rn h x hk.1, okL_rn h y hk.2⟩
  | .agg cs, hk => okL_rn h cs hk
  | .tup cs, hk => okL_rn h cs hk
  | .yf j, hk => h j hk
theorem okL_rn {p : Nat → Prop} (h : ∀ k, q k → p (f k)) : ∀ l : List SV, okL q l → okL p (rnL f l)
  | [], _ => trivial
  | x :: r, hk => ⟨ok_rn h x hk.1, okL_rn h r hk.2⟩
end
end
theorem usesM_mem {kb ks : Nat → Bool} : ∀ {M : List (Nat × Atom)}, usesM kb ks M = true → ∀ k A, (k, A) ∈ M → A.uses kb ks k = true
  | [], _, k, A, h => by simp at h
  | (j, B) :: r, hu, k, A, h => by
    simp only [usesM] at hu
    split at hu
    · rename_i hB
      simp only [List.mem_cons, Prod.mk.injEq] at h
      rcases h with ⟨rfl, rfl⟩ | h
      · exact hB
      · exact usesM_mem hu k A h
    · cases hu
section
variable {E E' : Env} {q : Nat → Prop} {f : Nat → Nat} {kb ks : Nat → Bool}
mutual
theorem den_rn2 (hb : ∀ k, q k → kb k = true → E'.blk (f k) = E.blk k) (hs : ∀ k, q k → ks k = true → E'.slv (f k) = E.slv k) : ∀ s : SV, s.ok q → s.uses kb ks = true → den E' (rnS f s) = den E s
  | .v _, _, _ => rfl
  | .ptr j _, hk, hu => by simp only [den, rnS, hb j hk hu]
  | .xptr j _ _ _ _, hk, hu => by simp only [den, rnS, hb j hk hu]
  | .sl j _ _ _, hk, hu => by simp only [den, rnS, hb j hk hu]
  | .own j, hk, hu => by simp only [den, rnS, hs j hk hu]
  | .eptr j _ _ _, hk, hu => by simp only [den, rnS, hs j hk hu]
  | .fn _ x y, hk, hu => by
    simp only [SV.uses] at hu
    split at hu
    · rename_i hx
      simp only [den, rnS, den_rnL2 hb hs x hk.1 hx, den_rnL2 hb hs y hk.2 hu]
    · cases hu
  | .agg cs, hk, hu => by simp only [den, rnS, den_rnL2 hb hs cs hk hu]
  | .tup cs, hk, hu => by simp only [den, rnS, den_rnL2 hb hs cs hk hu]
  | .yf j, hk, hu => by simp only [den, rnS, hb j hk hu]
theorem den_rnL2 (hb : ∀ k, q k → kb k = true → E'.blk (f k) = E.blk k) (hs : ∀ k, q k → ks k = true → E'.slv (f k) = E.slv k) : ∀ l : List SV, okL q l → usesL kb ks l = true → denL E' (rnL f l) = denL E l
  | [], _, _ => rfl
  | x :: r, hk, hu => by
    simp only [usesL] at hu
    split at hu
    · rename_i hx
      simp only [denL, rnL, den_rn2 hb hs x hk.1 hx, den_rnL2 hb hs r hk.2 hu]
    · cases hu
end
end
theorem rnL_eq (f : Nat → Nat) : ∀ l : List SV, rnL f l = l.map (rnS f)
  | [] => rfl
  | x :: r => by simp [rnL, rnL_eq f r]

/-- The keys of a renamed memory. -/
theorem gUpd_rn {g : Nat → Option Atom} {f : Nat → Nat} : ∀ (M : List (Nat × Atom)), (∀ k k' A A', (k, A) ∈ M → (k', A') ∈ M → f k = f k' → k = k') → ∀ x, (∃ k A, getM k M = some A ∧ x = f k ∧ gUpd g (someU (rnM f M)) x = some (rnA f A)) ∨ ((∀ k A, (k, A) ∈ M → x ≠ f k) ∧ gUpd g (someU (rnM f M)) x = g x)
  | [], _, x => .inr ⟨by simp, rfl⟩
  | (j, B) :: r, hinj, x => by
    simp only [rnM, someU, gUpd]
    by_cases e : x = f j
    · refine .inl ⟨j, B, by simp [getM, show Nat.beq j j = true from Nat.beq_refl j], e, by simp [e]⟩
    · rw [if_neg e]
      rcases gUpd_rn r (fun k k' A A' h h' => hinj k k' A A' (by simp [h]) (by simp [h'])) x with ⟨k, A, h1, h2, h3⟩ | ⟨h1, h2⟩
      · refine .inl ⟨k, A, ?_, h2, h3⟩
        have : Nat.beq j k = false := by
          cases hb : Nat.beq j k with
          | false => rfl
          | true => exact absurd (by rw [h2, Nat.eq_of_beq_eq_true hb]) e
        simp only [getM, this, h1]
      · refine .inr ⟨fun k A hk => ?_, h2⟩
        simp only [List.mem_cons, Prod.mk.injEq] at hk
        rcases hk with ⟨rfl, rfl⟩ | hk
        · exact e
        · exact h1 k A hk

section
variable {c : Ctx}
theorem canFz_rnd' {B : Atom} (h : B.canFz) : ¬ B.isRnd := by cases B <;> first | exact h.elim | exact id
/-- Values, handed over, with new keys from lo on. -/
theorem handedL {E : Env} {p : Nat → Prop} {M : List (Nat × Atom)} {W : World} (hM : SatM c E p (fun k => getM k M) W) {key : Nat} (hkey : ∀ q, q < 8 → ¬ p (key + q)) (lo : Nat) {xs : List Sk} {ss : List SV} {ps : PS} (h : packL M xs ss ⟨[], [], lo, [], 0⟩ = some ps) (hok : okL p ss) :
    ∃ svs M' E', fillL xs lo ps.lv.reverse = some (svs, M', ps.n, []) ∧ denL E' svs = denL E ss ∧ okL (fun k => lo ≤ k ∧ k < ps.n) svs ∧ SatM c E' (fun k => lo ≤ k ∧ k < ps.n) (fun k => getM k M') W ∧ PInv lo M ps ∧ (∀ b, E'.fz b ↔ FZ E M ps.fz b) ∧ (E'.rb = E.rb ∧ E'.ri = E.ri ∧ E'.pb = E.pb) ∧ (∀ k j, (k, some j) ∈ ps.ren → E'.blk k = E.blk j) ∧
      ∀ k A, getM k M' = some A → ¬ A.isPin ∧ (∀ b, b ∈ footOf E' k A → ¬ E'.fz b) ∧ (footOf E' k A = [] ∨ ∃ j B, (k, some j) ∈ ps.ren ∧ getM j M = some B ∧ B.canFz ∧ footOf E' k A = footOf E j B) := by
  have hI : PInv lo M ⟨[], [], lo, [], 0⟩ := ⟨by simp, by simp, by simp, by simp, Nat.zero_le _, Nat.le_refl _⟩
  obtain ⟨s1, add, s', M', q1, q2, q3, q4⟩ := packL_sound hM hkey xs ss _ ps h hok hI
  obtain ⟨σb, σs, hg⟩ := q4 ps.fz (fun _ h => h) (fun k j hk => s1.inv.us k j hk)
  simp only [List.append_nil] at q1
  have hnp : ps.np = 0 := s1.np
  obtain ⟨E2, hE2⟩ : ∃ E2 : Env, E2 = ⟨σb, σs, FZ E M ps.fz, E.rb, E.ri, E.pb⟩ := ⟨_, rfl⟩
  have ez : ∀ b, E2.fz b ↔ FZ E M ps.fz b := by rw [hE2]; exact fun b => Iff.rfl
  have er : E2.rb = E.rb ∧ E2.ri = E.ri ∧ E2.pb = E.pb := by rw [hE2]; exact ⟨rfl, rfl, rfl⟩
  obtain ⟨r1, r2, r3⟩ := hg E2 ez (fun k hk hk' => by rw [hE2]; exact ⟨rfl, rfl⟩) (by simp) (fun h0 => absurd h0 (Nat.lt_irrefl 0))
  have q2' := q2 []
  rw [List.append_nil] at q2'
  have hlt : ∀ k A, getM k M' = some A → NewA lo 0 c E E2 M W ps.ren lo ps.n k A := fun k A hk => r3 k A (getM_mem' hk)
  have okk : ∀ k, okK lo 0 ps.n k → lo ≤ k ∧ k < ps.n := fun k hk => ⟨hk.2.resolve_right (by omega), hk.1⟩
  rw [hnp] at q3
  refine ⟨s', M', E2, by rw [q1, List.reverse_reverse]; exact q2', r2, okL_mono okk s' q3, ⟨hM.fr, hM.size, fun b o ho => ⟨(ez b).2 (.inl (hM.pf b o ho).1), (hM.pf b o ho).2⟩, fun b hb => ?_, fun k A hk => ?_, fun k k' A A' hk hk' hne b hb hb' => ?_⟩, s1.inv, ez, er, r1, fun k A hk => ⟨(hlt k A hk).nr, (hlt k A hk).nf, (hlt k A hk).feet⟩⟩
  · rcases (ez b).1 hb with hb | ⟨j, A, B, w1, w2, w3⟩
    · exact hM.fz b hb
    · obtain ⟨B', w4, w5⟩ := s1.inv.fz j A w1
      rw [w2] at w4
      injection w4 with w4
      subst w4
      have := (hM.at_ j B w2).2.2.2.2 b w3
      exact ⟨this.2.resolve_left (canFz_rnd' w5), this.1⟩
  · have hN := hlt k A hk
    refine ⟨⟨hN.ge, hN.hi⟩, A.ok_mono okk hN.ok, hN.at_, hN.fzn, fun b hb => ?_⟩
    rcases hN.feet with h0 | ⟨j, B, u1, u2, u3, u4⟩
    · rw [h0] at hb; cases hb
    · rw [u4] at hb
      have := (hM.at_ j B u2).2.2.2.2 b hb
      exact ⟨this.1, .inr (this.2.resolve_left (canFz_rnd' u3))⟩
  · rcases (hlt k A hk).feet with h0 | ⟨j, B, u1, u2, u3, u4⟩
    · rw [h0] at hb; cases hb
    · rcases (hlt k' A' hk').feet with h0 | ⟨j', B', v1, v2, v3, v4⟩
      · rw [h0] at hb'; cases hb'
      · rw [u4] at hb
        rw [v4] at hb'
        exact hM.dj j j' B B' u2 v2 (fun e => by subst e; exact hne (s1.inv.ds _ _ _ u1 v1)) b hb hb'

/-! ### The context of such a call -/
/-- What the call finds: what was there when the caller began (as it is now), blocks that stay, what is frozen. -/
def cM (w0 : World) (U : Nat → Prop) (pv : List Nat) (pobj pf : Nat → Option Obj) (sz : Nat) : Ctx := { w0, S := [], U, nt := 0, rd := none, sz, pv, pobj, pf }

/-- What is told of such a function, holds. -/
structure MSpecOK (P : Program) (s : MSpec) : Prop where
  enters : Enters P s.g
  call : ∀ (x : pt (tysL s.args)) (r : RT s.res), s.f x = some r → ∀ (w0 W : World) (U : Nat → Prop) (pv : List Nat) (pobj pf : Nat → Option Obj) (sz : Nat) (E : Env) (ss : List SV) (M : List (Nat × Atom)) (n : Nat), fillL s.args 1 (toL (tysL s.args) x) = some (ss, M, n, []) → okL (fun k => 1 ≤ k ∧ k < n) ss →
    SatM (cM w0 U pv pobj pf sz) E (fun k => k < n) (fun k => getM k ((0, .pin) :: M)) W →
    Calls P s.g (denL E ss).toArray W fun e W' => ∃ (sks : List Sk) (svs ts : List SV) (t : SV) (M' : List (Nat × Atom)) (n' : Nat) (E' : Env), (toldR s.res r).1 = .tup sks ∧ fillL sks 0 (toldR s.res r).2 = some (svs, M', n', []) ∧ svs = ts ++ [t] ∧ e = .returned (den E' t) ∧ denL E' ts = denL E (mutS s.args ss) ∧ okL (fun k => k < n') svs ∧
      SatM (cM w0 U pv pobj pf sz) E' (fun k => k < n') (fun k => getM k M') W' ∧ (∀ b, b ∈ pv → W'.heap[b]? = pobj b ∧ ¬ E'.fz b) ∧ ∀ k A, getM k M' = some A → ¬ A.isPin ∧ (∀ b, b ∈ footOf E' k A → b ∉ pv ∧ ¬ E'.fz b)
end
end Go.VM

/-
Calls that write into what they are handed: back in the memory of the caller.
-/
set_option linter.unusedVariables false
set_option linter.unusedSimpArgs false
namespace Go.VM
open Go.RowKit

theorem satM_backM {c : Ctx} {E : Env} {p : Nat → Prop} {g : Nat → Option Atom} {W W' : World} (hM : SatM c E p g W) {w0' : World} {U' : Nat → Prop} {pv : List Nat} {pobj pf : Nat → Option Obj}
    (e1 : w0'.os = W.os ∧ w0'.tape = W.tape ∧ w0'.output = W.output) (e2 : w0'.heap.size = c.w0.heap.size) (e3 : ∀ b, b < c.w0.heap.size → w0'.heap[b]? = W.heap[b]?) (eU : ∀ b, U' b ↔ c.U b ∨ b ∈ c.S) (ef : ∀ b o, E.fz b → W.heap[b]? = some o → pf b = some o)
    {E2 : Env} {n2 : Nat} {M2 : List (Nat × Atom)} (hS : SatM (cM w0' U' pv pobj pf W.heap.size) E2 (fun k => k < n2) (fun k => getM k M2) W') (hpin : ∀ b, b ∈ pv → W'.heap[b]? = W.heap[b]? ∧ ¬ E2.fz b)
    (hcov : ∀ k A, g k = some A → ∀ b, b ∈ footOf E k A → c.w0.heap.size ≤ b → ¬ E.fz b → b ∈ pv) (hft : ∀ k A, getM k M2 = some A → ¬ A.isPin ∧ ∀ b, b ∈ footOf E2 k A → b ∉ pv ∧ ¬ E2.fz b)
    {f : Nat → Nat} {kb ks : Nat → Bool} (hinj : ∀ k k' A A', (k, A) ∈ M2 → (k', A') ∈ M2 → f k = f k' → k = k') {E3 : Env} (ha : Agree p E E3) (hb : ∀ k, k < n2 → kb k = true → E3.blk (f k) = E2.blk k) (hs : ∀ k, k < n2 → ks k = true → E3.slv (f k) = E2.slv k)
    (hz3 : ∀ b, E3.fz b ↔ E.fz b ∨ E2.fz b) (hr : E3.rb = E.rb ∧ E3.ri = E.ri ∧ E3.pb = E.pb) (hu : ∀ k A, getM k M2 = some A → A.uses kb ks k = true) :
    SatM c E3 (fun k => p k ∨ ∃ i, i < n2 ∧ k = f i) (gUpd g (someU (rnM f M2))) W' := by
  have hfr := hS.fr
  have hsz : W.heap.size ≤ W'.heap.size := hS.size
  have low : ∀ b, b < c.w0.heap.size → W'.heap[b]? = W.heap[b]? := fun b hb => by
    rw [← e3 b hb]
    exact hfr.block b (by rw [show (cM w0' U' pv pobj pf W.heap.size).w0 = w0' from rfl, e2]; exact hb) (by simp [cM])
  have frozen : ∀ b, E.fz b → W'.heap[b]? = W.heap[b]? ∧ E2.fz b := fun b hb => by
    have hlt := (hM.fz b hb).2
    have h1 := ef b _ hb (Array.getElem?_eq_getElem hlt)
    obtain ⟨h2, h3⟩ := hS.pf b _ h1
    exact ⟨by rw [h3, Array.getElem?_eq_getElem hlt], h2⟩
  have hfr' : Fr c.S c.w0 W' := by
    refine ⟨hfr.os.trans (e1.1.trans hM.fr.os), hfr.tape.trans (e1.2.1.trans hM.fr.tape), hfr.output.trans (e1.2.2.trans hM.fr.output), Nat.le_trans hM.fr.size hsz, fun k hk hkS => ?_⟩
    rw [low k hk]
    exact hM.fr.block k hk hkS
  have hst : ∀ b, still c E b → still c E3 b := fun b hb => hb.imp id fun h => (hz3 b).2 (.inl h)
  have hst2 : ∀ b, still (cM w0' U' pv pobj pf W.heap.size) E2 b → still c E3 b := fun b hb => by
    rcases hb with ⟨h1, _, h3⟩ | h1
    · have h1 : b < w0'.heap.size := h1
      have h3 : ¬ U' b := h3
      rw [eU] at h3
      exact .inl ⟨by omega, fun h => h3 (.inr h), fun h => h3 (.inl h)⟩
    · exact .inr ((hz3 b).2 (.inr h1))
  have hstill : ∀ b, still c E b → W'.heap[b]? = W.heap[b]? := fun b hb => by
    rcases hb with ⟨h1, _, _⟩ | h1
    · exact low b h1
    · exact (frozen b h1).1
  have oldfoot : ∀ k A, g k = some A → ∀ b, b ∈ footOf E k A → b < c.w0.heap.size ∨ E.fz b ∨ b ∈ pv := fun k A hk b hb => by
    rcases Nat.lt_or_ge b c.w0.heap.size with h | h
    · exact .inl h
    · by_cases hf : E.fz b
      · exact .inr (.inl hf)
      · exact .inr (.inr (hcov k A hk b hb h hf))
  have hsplit := gUpd_rn (g := g) M2 hinj
  have e2' : (cM w0' U' pv pobj pf W.heap.size).w0.heap.size = c.w0.heap.size := e2
  have newfoot : ∀ k A, getM k M2 = some A → footOf E3 (f k) (rnA f A) = footOf E2 k A := fun k A hk => by
    have h1 := (hS.at_ k A hk).1
    have h2 := hu k A hk
    have h3 := (hft k A hk).1
    cases A with
    | box cs t b =>
      simp only [Atom.uses] at h2
      split at h2
      · rename_i h4
        simp only [rnA, footOf, hb k h1 h4]
      · cases h2
    | own ty t l => simp only [rnA, footOf, hs k h1 h2]
    | ro t l => rfl
    | rop cs => rfl
    | mark => exact absurd trivial h3
    | pin => exact absurd trivial h3
    | rnd t l => exact absurd trivial h3
  refine ⟨hfr', Nat.le_trans hM.size hsz, fun b o ho => ?_, fun b hb => ?_, fun x B hx => ?_, fun x x' B B' hx hx' hne b hb1 hb2 => ?_⟩
  · obtain ⟨h1, h2⟩ := hM.pf b o ho
    exact ⟨(hz3 b).2 (.inl h1), (frozen b h1).1.trans h2⟩
  · rcases (hz3 b).1 hb with hb | hb
    · exact ⟨(hM.fz b hb).1, Nat.lt_of_lt_of_le (hM.fz b hb).2 hsz⟩
    · exact ⟨by have := (hS.fz b hb).1; rw [e2'] at this; exact this, (hS.fz b hb).2⟩
  · rcases hsplit x with ⟨k, A, h1, rfl, h3⟩ | ⟨h1, h2⟩
    · have hx : gUpd g (someU (rnM f M2)) (f k) = some B := hx
      rw [h3] at hx
      injection hx with hx
      subst hx
      obtain ⟨q1, q2, q3, q4, q5⟩ := hS.at_ k A h1
      have hu' := hu k A h1
      have hp := (hft k A h1).1
      have hf0 : ∀ b, b ∈ footOf E2 k A → ¬ E3.fz b := fun b hb' hz => by
        have := (hft k A h1).2 b hb'
        rcases (hz3 b).1 hz with h | h
        · exact this.2 (frozen b h).2
        · exact this.2 h
      have okf : ∀ i, i < n2 → p (f i) ∨ ∃ j, j < n2 ∧ f i = f j := fun i hi => .inr ⟨i, hi, rfl⟩
      refine ⟨.inr ⟨k, q1, rfl⟩, ?_, ?_, ?_, fun b hb' => ?_⟩
      · cases A with
        | box cs t b => exact okL_rn okf cs q2
        | rop cs => exact okL_rn okf cs q2
        | _ => trivial
      · cases A with
        | box cs t b =>
          simp only [Atom.uses] at hu'
          split at hu'
          · rename_i h4
            simp only [AtomAt, rnA] at q3 ⊢
            rw [hb k q1 h4, den_rnL2 hb hs cs q2 hu']
            exact q3
          · cases hu'
        | own ty t l =>
          simp only [AtomAt, rnA, den] at q3 ⊢
          rw [hs k q1 hu']
          obtain ⟨vs, ⟨r1, r2⟩, r3⟩ := q3
          refine ⟨vs, ⟨r1, ?_⟩, r3.mono hst2 fun _ _ => rfl⟩
          rcases r2 with r2 | ⟨g', cap, cur, u1, u2, u3⟩
          · exact .inl r2
          · exact .inr ⟨g', cap, cur, u1, by rw [e2'] at u2; exact u2, u3⟩
        | ro t l =>
          simp only [AtomAt, rnA] at q3 ⊢
          rw [hs k q1 hu']
          exact q3.mono hst2 (fun _ _ => rfl) fun x vs hr => hr.mono hst2 fun _ _ => rfl
        | rop cs =>
          simp only [Atom.uses] at hu'
          split at hu'
          · rename_i h4
            simp only [AtomAt, rnA] at q3 ⊢
            rw [hs k q1 h4]
            obtain ⟨a, u1, u2, u3⟩ := q3
            refine ⟨a, u1, hst2 _ u2, fun i s hi => ?_⟩
            rw [rnL_eq, List.getElem?_map] at hi
            cases hs' : cs[i]? with
            | none => simp [hs'] at hi
            | some s0 =>
              simp only [hs', Option.map_some, Option.some.injEq] at hi
              subst hi
              have hu0 : ∀ (l : List SV), usesL kb ks l = true → ∀ s, s ∈ l → s.uses kb ks = true := by
                intro l
                induction l with
                | nil => intro _ s h; simp at h
                | cons y r ih =>
                  intro hl s h
                  simp only [usesL] at hl
                  split at hl
                  · rename_i hy
                    rcases List.mem_cons.1 h with rfl | h
                    · exact hy
                    · exact ih hl s h
                  · cases hl
              rw [den_rn2 hb hs s0 ((okL_iff _ cs).1 q2 s0 (List.mem_of_getElem? hs')) (hu0 cs hu' s0 (List.mem_of_getElem? hs'))]
              exact u3 i s0 hs'
          · cases hu'
        | mark => exact absurd trivial hp
        | pin => exact absurd trivial hp
        | rnd t l => exact absurd trivial hp
      · cases A with
        | box cs t b =>
          simp only [Atom.uses] at hu'
          split at hu'
          · rename_i h4
            simp only [rnA, Atom.fzn, hb k q1 h4] at q4 ⊢
            have hf1 := hf0 (E2.blk k) (by simp [footOf])
            have hf2 := ((hft k _ h1).2 (E2.blk k) (by simp [footOf])).2
            constructor
            · intro h; exact absurd h hf1
            · intro h; exact absurd (q4.2 h) hf2
          · cases hu'
        | own ty t l =>
          simp only [rnA, Atom.fzn, hs k q1 hu']
          intro a ea
          exact hf0 a.block (by simp [footOf, ea])
        | ro t l => trivial
        | rop cs => trivial
        | mark => exact absurd trivial hp
        | pin => exact absurd trivial hp
        | rnd t l => exact absurd trivial hp
      · rw [newfoot k A h1] at hb'
        obtain ⟨u1, u2⟩ := q5 b hb'
        refine ⟨u1, .inr ?_⟩
        have : ¬ A.isRnd := by cases A <;> first | exact id | exact absurd trivial hp
        have := u2.resolve_left this
        rw [e2'] at this
        exact this
    · have hx : gUpd g (someU (rnM f M2)) x = some B := hx
      rw [h2] at hx
      obtain ⟨q1, q2, q3, q4, q5⟩ := hM.at_ x B hx
      refine ⟨.inl q1, B.ok_mono (fun k hk => .inl hk) q2, q3.mono ha hr q1 q2 hM.fr hfr' hsz (fun b hb' => ?_) hstill hst, B.fzn_same ha q1 ⟨fun _ => hr.1, hr.2.2⟩ (fun b hb' => ?_) q4, fun b hb' => ?_⟩
      · rcases oldfoot x B hx b hb' with h | h | h
        · exact low b h
        · exact (frozen b h).1
        · exact (hpin b h).1
      · rw [hz3]
        refine ⟨fun h => ?_, .inl⟩
        rcases h with h | h
        · exact h
        · rcases oldfoot x B hx b hb' with h' | h' | h'
          · have := (hS.fz b h).1
            rw [e2'] at this
            omega
          · exact h'
          · exact absurd h (hpin b h').2
      · rw [footOf_agree ha hr q1] at hb'
        exact ⟨Nat.lt_of_lt_of_le (q5 b hb').1 hsz, (q5 b hb').2⟩
  · have cross : ∀ k A x B, getM k M2 = some A → g x = some B → ∀ b, b ∈ footOf E2 k A → b ∈ footOf E x B → False := fun k A x B hk hx b h1 h2 => by
      obtain ⟨q1, q2, q3, q4, q5⟩ := hS.at_ k A hk
      have hp := (hft k A hk).1
      have := (q5 b h1).2.resolve_left (by cases A <;> first | exact id | exact absurd trivial hp)
      rw [e2'] at this
      rcases oldfoot x B hx b h2 with h' | h' | h'
      · omega
      · exact ((hft k A hk).2 b h1).2 (frozen b h').2
      · exact ((hft k A hk).2 b h1).1 h'
    have hx : gUpd g (someU (rnM f M2)) x = some B := hx
    have hx' : gUpd g (someU (rnM f M2)) x' = some B' := hx'
    rcases hsplit x with ⟨k, A, h1, rfl, h3⟩ | ⟨h1, h2⟩
    · rw [h3] at hx
      injection hx with hx
      subst hx
      rw [newfoot k A h1] at hb1
      rcases hsplit x' with ⟨k', A', h1', rfl, h3'⟩ | ⟨h1', h2'⟩
      · rw [h3'] at hx'
        injection hx' with hx'
        subst hx'
        rw [newfoot k' A' h1'] at hb2
        exact hS.dj k k' A A' h1 h1' (fun e => hne (by rw [e])) b hb1 hb2
      · rw [h2'] at hx'
        rw [footOf_agree ha hr (hM.at_ x' B' hx').1] at hb2
        exact cross k A x' B' h1 hx' b hb1 hb2
    · rw [h2] at hx
      rw [footOf_agree ha hr (hM.at_ x B hx).1] at hb1
      rcases hsplit x' with ⟨k', A', h1', rfl, h3'⟩ | ⟨h1', h2'⟩
      · rw [h3'] at hx'
        injection hx' with hx'
        subst hx'
        rw [newfoot k' A' h1'] at hb2
        exact cross k' A' x B h1' hx b hb2 hb1
      · rw [h2'] at hx'
        rw [footOf_agree ha hr (hM.at_ x' B' hx').1] at hb2
        exact hM.dj x x' B B' hx hx' hne b hb1 hb2
end Go.VM

/-
Calls that write into what they are handed: as operations.
-/
set_option linter.unusedVariables false
set_option linter.unusedSimpArgs false
namespace Go.VM
open Go.RowKit
theorem frzB_eq (A : Atom) : frzB A = frzA A := by cases A <;> rfl
theorem frzM_mem {M : List (Nat × Atom)} : ∀ (l : List (Nat × Atom)), (∀ j A, (j, A) ∈ l → ∃ B, getM j M = some B ∧ B.canFz) → (∀ j A, (j, A) ∈ frzM M l → ∃ B, getM j M = some B ∧ B.canFz ∧ A = frzA B) ∧ ∀ j A, (j, A) ∈ l → ∃ A', (j, A') ∈ frzM M l
  | [], _ => ⟨by simp [frzM], by simp⟩
  | (i, C) :: r, h => by
    obtain ⟨B, h1, h2⟩ := h i C (by simp)
    obtain ⟨q1, q2⟩ := frzM_mem r fun j A hA => h j A (by simp [hA])
    simp only [frzM, h1]
    refine ⟨fun j A hA => ?_, fun j A hA => ?_⟩
    · simp only [List.mem_cons, Prod.mk.injEq] at hA
      rcases hA with ⟨rfl, rfl⟩ | hA
      · exact ⟨B, h1, h2, frzB_eq B⟩
      · exact q1 j A hA
    · simp only [List.mem_cons, Prod.mk.injEq] at hA
      rcases hA with ⟨rfl, rfl⟩ | hA
      · exact ⟨_, by simp; exact .inl rfl⟩
      · obtain ⟨A', hA'⟩ := q2 j A hA
        exact ⟨A', by simp [hA']⟩
theorem notN_iff {l : List Nat} {k : Nat} : notN l k = true ↔ k ∉ l := by
  have : ∀ l : List Nat, notN.elemN' k l = true ↔ k ∈ l := by
    intro l
    induction l with
    | nil => simp [notN.elemN']
    | cons x r ih =>
      simp only [notN.elemN']
      cases hb : Nat.beq x k with
      | true => simp [Nat.eq_of_beq_eq_true hb]
      | false =>
        have : x ≠ k := fun e => by rw [e, Nat.beq_refl] at hb; cases hb
        simp [ih, Ne.symm this]
  unfold notN
  cases h : notN.elemN' k l with
  | true => simp [(this l).1 h]
  | false =>
    simp only [true_iff]
    intro hm
    rw [(this l).2 hm] at h
    cases h
theorem distN_cons {x : Nat} {r : List Nat} (h : distN (x :: r) = true) : x ∉ r ∧ distN r = true := by
  simp only [distN] at h
  split at h
  · rename_i hx
    exact ⟨notN_iff.1 hx, h⟩
  · cases h
theorem allLtN_mem {key : Nat} : ∀ {l : List Nat}, allLtN key l = true → ∀ x, x ∈ l → x < key
  | [], _, x, hx => by simp at hx
  | y :: r, h, x, hx => by
    simp only [allLtN] at h
    split at h
    · rename_i hy
      rcases List.mem_cons.1 hx with rfl | hx
      · exact Nat.le_of_ble_eq_true hy
      · exact allLtN_mem h x hx
    · cases h
theorem lastS_eq : ∀ {l ts : List SV} {t : SV}, lastS l = some (ts, t) → l = ts ++ [t]
  | [], ts, t, h => by cases h
  | [x], ts, t, h => by
    simp only [lastS, Option.some.injEq, Prod.mk.injEq] at h
    obtain ⟨rfl, rfl⟩ := h
    rfl
  | x :: y :: r, ts, t, h => by
    rw [lastS] at h
    split at h
    · rename_i q z hq
      simp only [Option.some.injEq, Prod.mk.injEq] at h
      obtain ⟨rfl, rfl⟩ := h
      rw [lastS_eq hq]
      rfl
    · cases h
theorem mem_sndN {l : List (Nat × Nat)} {k j : Nat} (h : (k, j) ∈ l) : j ∈ sndN l := by
  induction l with
  | nil => simp at h
  | cons y r ih =>
    obtain ⟨a, b⟩ := y
    simp only [sndN, List.mem_cons, Prod.mk.injEq] at h ⊢
    rcases h with ⟨rfl, rfl⟩ | h
    · exact .inl rfl
    · exact .inr (ih h)
/-- A key is an old one or new. -/
theorem phi_cases (key k : Nat) : ∀ l : List (Nat × Nat), (∃ j, (k, j) ∈ l ∧ phi l key k = j) ∨ phi l key k = key + k
  | [] => .inr rfl
  | (i, j) :: r => by
    simp only [phi]
    cases hb : Nat.beq i k with
    | true =>
      have := Nat.eq_of_beq_eq_true hb
      subst this
      exact .inl ⟨j, by simp, rfl⟩
    | false =>
      rcases phi_cases key k r with ⟨j', h1, h2⟩ | h
      · exact .inl ⟨j', by simp [h1], h2⟩
      · exact .inr h
theorem snd_inj : ∀ {l : List (Nat × Nat)}, distN (sndN l) = true → ∀ k k' j, (k, j) ∈ l → (k', j) ∈ l → k = k'
  | [], _, k, k', j, h, _ => by simp at h
  | (a, b) :: r, hd, k, k', j, h, h' => by
    simp only [sndN] at hd
    obtain ⟨h1, h2⟩ := distN_cons hd
    simp only [List.mem_cons, Prod.mk.injEq] at h h'
    rcases h with ⟨rfl, rfl⟩ | h
    · rcases h' with ⟨rfl, _⟩ | h'
      · rfl
      · exact absurd (mem_sndN h') h1
    · rcases h' with ⟨rfl, rfl⟩ | h'
      · exact absurd (mem_sndN h) h1
      · exact snd_inj h2 k k' j h h'
theorem phi_inj {l : List (Nat × Nat)} {key : Nat} (hd : distN (sndN l) = true) (hlt : allLtN key (sndN l) = true) {k k' : Nat} (h : phi l key k = phi l key k') : k = k' := by
  rcases phi_cases key k l with ⟨j, h1, h2⟩ | h1
  · have hj := allLtN_mem hlt j (mem_sndN h1)
    rcases phi_cases key k' l with ⟨j', h1', h2'⟩ | h1'
    · rw [h2, h2'] at h
      subst h
      exact snd_inj hd k k' j h1 h1'
    · omega
  · rcases phi_cases key k' l with ⟨j', h1', h2'⟩ | h1'
    · have hj := allLtN_mem hlt j' (mem_sndN h1')
      omega
    · omega
/-- What the pairs of keys are. -/
theorem zipK_spec {E E' : Env} : ∀ {ts ss : List SV} {l : List (Nat × Nat)}, zipK ts ss = some l → denL E' ts = denL E ss → ∀ k j, (k, j) ∈ l → (k ∈ ptrK ts ∧ E'.blk k = E.blk j ∧ ∃ o, SV.ptr j o ∈ ss) ∨ (k ∈ ownK ts ∧ E'.slv k = E.slv j ∧ SV.own j ∈ ss)
  | [], ss, l, h, _, k, j, hk => by
    cases ss with
    | nil => simp only [zipK, Option.some.injEq] at h; subst h; simp at hk
    | cons _ _ => simp [zipK] at h
  | t :: ts, ss, l, h, hd, k, j, hk => by
    cases ss with
    | nil => simp [zipK] at h
    | cons s q =>
      simp only [denL, List.cons.injEq] at hd
      simp only [zipK] at h
      split at h
      · rename_i k0 o j0 o'
        split at h
        · rename_i l0 ho hz
          injection h with h
          subst h
          simp only [List.mem_cons, Prod.mk.injEq] at hk
          rcases hk with ⟨rfl, rfl⟩ | hk
          · have := hd.1
            simp only [den, Value.pointer.injEq, Option.some.injEq, Addr.mk.injEq] at this
            exact .inl ⟨by simp [ptrK], this.1, o', by simp⟩
          · rcases zipK_spec hz hd.2 k j hk with ⟨h1, h2, o1, h3⟩ | ⟨h1, h2, h3⟩
            · exact .inl ⟨by simp [ptrK, h1], h2, o1, by simp [h3]⟩
            · exact .inr ⟨by simp [ownK, h1], h2, by simp [h3]⟩
        · cases h
      · rename_i k0 j0
        split at h
        · rename_i l0 hz
          injection h with h
          subst h
          simp only [List.mem_cons, Prod.mk.injEq] at hk
          rcases hk with ⟨rfl, rfl⟩ | hk
          · have := hd.1
            simp only [den, Value.slice.injEq] at this
            exact .inr ⟨by simp [ownK], by rw [Prod.ext_iff, Prod.ext_iff]; exact ⟨this.1, this.2.1, this.2.2⟩, by simp⟩
          · rcases zipK_spec hz hd.2 k j hk with ⟨h1, h2, o1, h3⟩ | ⟨h1, h2, h3⟩
            · exact .inl ⟨by simp [ptrK, h1], h2, o1, by simp [h3]⟩
            · exact .inr ⟨by simp [ownK, h1], h2, by simp [h3]⟩
        · cases h
      · cases h
theorem mutS_den {E E' : Env} : ∀ (a : List Sk) (ss ss' : List SV), denL E' ss' = denL E ss → denL E' (mutS a ss') = denL E (mutS a ss)
  | [], _, _, _ => by simp [mutS, denL]
  | x :: r, [], [], _ => by simp [mutS, denL]
  | x :: r, s :: q, s' :: q', h => by
    simp only [denL, List.cons.injEq] at h
    simp only [mutS]
    cases x.isMut with
    | true => simp only [denL, h.1, mutS_den r q q' h.2]
    | false => exact mutS_den r q q' h.2
  | x :: r, [], _ :: _, h => by simp [denL] at h
  | x :: r, _ :: _, [], h => by simp [denL] at h
theorem mutS_mem : ∀ (a : List Sk) (ss : List SV) (s : SV), s ∈ mutS a ss → s ∈ ss
  | [], _, s, h => by simp [mutS] at h
  | x :: r, [], s, h => by simp [mutS] at h
  | x :: r, t :: q, s, h => by
    simp only [mutS] at h
    cases hx : x.isMut with
    | true =>
      simp only [hx, List.mem_cons] at h
      rcases h with rfl | h
      · simp
      · simp [mutS_mem r q s h]
    | false =>
      simp only [hx] at h
      simp [mutS_mem r q s h]
theorem mem_renJ {l : List (Nat × Option Nat)} {k j : Nat} (h : (k, some j) ∈ l) : j ∈ renJ l := by
  induction l with
  | nil => simp at h
  | cons y r ih =>
    obtain ⟨a, b⟩ := y
    simp only [List.mem_cons, Prod.mk.injEq] at h
    rcases h with ⟨rfl, rfl⟩ | h
    · simp [renJ]
    · cases b with
      | none => simpa [renJ] using ih h
      | some b => simp [renJ, ih h]
theorem keysU_undo : ∀ (l : List Nat) (k : Nat), k ∈ keysU (undoL l) → k ∈ l
  | [], k, h => by simp [undoL, keysU] at h
  | x :: r, k, h => by
    simp only [undoL, keysU, List.mem_cons] at h ⊢
    exact h.imp id (keysU_undo r k)
theorem keysU_someM {M : List (Nat × Atom)} {k : Nat} (h : k ∈ keysU (someU M)) : ∃ A, (k, A) ∈ M := by
  induction M with
  | nil => simp [someU, keysU] at h
  | cons y r ih =>
    obtain ⟨j, B⟩ := y
    simp only [someU, keysU, List.mem_cons] at h
    rcases h with rfl | h
    · exact ⟨B, by simp⟩
    · obtain ⟨A, hA⟩ := ih h
      exact ⟨A, by simp [hA]⟩
theorem mem_rnM {f : Nat → Nat} : ∀ {M : List (Nat × Atom)} {x : Nat} {B : Atom}, (x, B) ∈ rnM f M → ∃ k A, (k, A) ∈ M ∧ x = f k
  | [], x, B, h => by simp [rnM] at h
  | (k, A) :: r, x, B, h => by
    simp only [rnM, List.mem_cons, Prod.mk.injEq] at h
    rcases h with ⟨rfl, _⟩ | h
    · exact ⟨k, A, by simp, rfl⟩
    · obtain ⟨k', A', h1, h2⟩ := mem_rnM h
      exact ⟨k', A', by simp [h1], h2⟩
end Go.VM

/-
Calls that write into what they are handed: what the call finds; the operation.
-/
set_option linter.unusedVariables false
set_option linter.unusedSimpArgs false
namespace Go.VM
open Go.RowKit
mutual
theorem ok_allT : ∀ s : SV, s.ok (fun _ => True)
  | .v _ => trivial
  | .ptr _ _ => trivial
  | .xptr _ _ _ _ _ => trivial
  | .eptr _ _ _ _ => trivial
  | .sl _ _ _ _ => trivial
  | .own _ => trivial
  | .fn _ x y => ⟨okL_allT x, okL_allT y⟩
  | .agg cs => okL_allT cs
  | .tup cs => okL_allT cs
  | .yf _ => trivial
theorem okL_allT : ∀ l : List SV, okL (fun _ => True) l
  | [] => trivial
  | x :: r => ⟨ok_allT x, okL_allT r⟩
end
open Classical in
theorem satM_toM {c : Ctx} {E1 : Env} {n : Nat} {M' : List (Nat × Atom)} {W : World} (hS : SatM c E1 (fun k => 1 ≤ k ∧ k < n) (fun k => getM k M') W) (hn : 1 ≤ n)
    (hft : ∀ k A, getM k M' = some A → ¬ A.isPin ∧ ∀ b, b ∈ footOf E1 k A → ¬ E1.fz b) :
    ∃ (w0' : World) (U' : Nat → Prop) (pv : List Nat) (pobj pf : Nat → Option Obj) (E1' : Env), (w0'.os = W.os ∧ w0'.tape = W.tape ∧ w0'.output = W.output) ∧ w0'.heap.size = c.w0.heap.size ∧ (∀ b, b < c.w0.heap.size → w0'.heap[b]? = W.heap[b]?) ∧ (∀ b, U' b ↔ c.U b ∨ b ∈ c.S) ∧
      (∀ b o, E1.fz b → W.heap[b]? = some o → pf b = some o) ∧ (∀ b, pobj b = W.heap[b]?) ∧ (∀ b, c.w0.heap.size ≤ b → b < W.heap.size → ¬ E1.fz b → (∀ k A, getM k M' = some A → b ∉ footOf E1 k A) → b ∈ pv) ∧ (∀ s, den E1' s = den E1 s) ∧ (∀ l, denL E1' l = denL E1 l) ∧
      SatM (cM w0' U' pv pobj pf W.heap.size) E1' (fun k => k < n) (fun k => getM k ((0, .pin) :: M')) W := by
  have hpv : ∃ pv : List Nat, ∀ b, b ∈ pv ↔ b < W.heap.size ∧ (c.w0.heap.size ≤ b ∧ ¬ E1.fz b ∧ ∀ k A, getM k M' = some A → b ∉ footOf E1 k A) :=
    ⟨(List.range W.heap.size).filter fun b => decide (c.w0.heap.size ≤ b ∧ ¬ E1.fz b ∧ ∀ k A, getM k M' = some A → b ∉ footOf E1 k A), fun b => by simp⟩
  obtain ⟨pv, hpv⟩ := hpv
  have hw : ∃ w0' : World, (w0'.os = W.os ∧ w0'.tape = W.tape ∧ w0'.output = W.output) ∧ w0'.heap.size = c.w0.heap.size ∧ ∀ b, b < c.w0.heap.size → w0'.heap[b]? = W.heap[b]? := by
    have := hS.fr.size
    refine ⟨{ W with heap := W.heap.extract 0 c.w0.heap.size }, ⟨rfl, rfl, rfl⟩, by simp; omega, fun b hb => ?_⟩
    simp [Array.getElem?_extract]
    omega
  obtain ⟨w0', e1, e2, e3⟩ := hw
  refine ⟨w0', fun b => c.U b ∨ b ∈ c.S, pv, fun b => W.heap[b]?, fun b => if E1.fz b then W.heap[b]? else none, { E1 with pb := pv }, e1, e2, e3, fun b => Iff.rfl, fun b o h1 h2 => by simp [h1, h2], fun b => rfl, fun b h1 h2 h3 h4 => (hpv b).2 ⟨h2, h1, h3, h4⟩, ?_⟩
  generalize hE : ({ E1 with pb := pv } : Env) = E1'
  have eb : E1'.blk = E1.blk := by rw [← hE]
  have es : E1'.slv = E1.slv := by rw [← hE]
  have ez : ∀ b, E1'.fz b ↔ E1.fz b := by rw [← hE]; exact fun b => Iff.rfl
  have ep : E1'.pb = pv := by rw [← hE]
  have ha : Agree (fun _ => True) E1 E1' := fun k _ => by rw [eb, es]; exact ⟨rfl, rfl⟩
  have okT : ∀ s : SV, s.ok (fun _ => True) := fun s => by
    exact ok_allT s
  have hd : ∀ s, den E1' s = den E1 s := fun s => den_agree ha s (okT s)
  have hdL : ∀ l, denL E1' l = denL E1 l := fun l => denL_agree ha l ((okL_iff _ l).2 fun s _ => okT s)
  have hst : still (cM w0' (fun b => c.U b ∨ b ∈ c.S) pv (fun b => W.heap[b]?) (fun b => if E1.fz b then W.heap[b]? else none) W.heap.size) E1' = still c E1 := by
    funext b
    apply propext
    simp only [still, cM, ez, e2, List.not_mem_nil, not_false_eq_true, true_and, not_or]
    constructor
    · rintro (⟨h1, h2, h3⟩ | h)
      · exact .inl ⟨h1, h3, h2⟩
      · exact .inr h
    · rintro (⟨h1, h2, h3⟩ | h)
      · exact .inl ⟨h1, h3, h2⟩
      · exact .inr h
  have hfoot : ∀ k A, getM k M' = some A → footOf E1' k A = footOf E1 k A := fun k A hk => by
    have := (hft k A hk).1
    cases A <;> first | exact absurd trivial this | simp only [footOf, eb, es]
  have hg : ∀ k A, getM k ((0, Atom.pin) :: M') = some A → (k = 0 ∧ A = .pin) ∨ (k ≠ 0 ∧ getM k M' = some A) := fun k A hk => by
    simp only [getM] at hk
    cases hb : Nat.beq 0 k with
    | true =>
      rw [hb] at hk
      injection hk with hk
      exact .inl ⟨(Nat.eq_of_beq_eq_true hb).symm, hk.symm⟩
    | false =>
      rw [hb] at hk
      exact .inr ⟨fun e => (by subst e; cases hb), hk⟩
  refine ⟨hd, hdL, ?_⟩
  generalize hc : cM w0' (fun b => c.U b ∨ b ∈ c.S) pv (fun b => W.heap[b]?) (fun b => if E1.fz b then W.heap[b]? else none) W.heap.size = c' at hst ⊢
  have c1 : c'.w0 = w0' := by rw [← hc]; rfl
  have c2 : c'.S = [] := by rw [← hc]; rfl
  have c3 : c'.sz = W.heap.size := by rw [← hc]; rfl
  have c4 : c'.pf = fun b => if E1.fz b then W.heap[b]? else none := by rw [← hc]; rfl
  have c5 : c'.pv = pv ∧ c'.pobj = fun b => W.heap[b]? := by rw [← hc]; exact ⟨rfl, rfl⟩
  refine ⟨?_, by rw [c3]; exact Nat.le_refl _, fun b o ho => ?_, fun b hb => ?_, fun k A hk => ?_, fun k k' A A' hk hk' hne b hb hb' => ?_⟩
  · rw [c1, c2]
    exact ⟨e1.1.symm, e1.2.1.symm, e1.2.2.symm, by rw [e2]; exact hS.fr.size, fun k hk _ => (e3 k (by rw [e2] at hk; exact hk)).symm⟩
  · rw [c4] at ho
    by_cases hz : E1.fz b
    · simp only [hz, if_true] at ho
      exact ⟨(ez b).2 hz, ho⟩
    · simp [hz] at ho
  · rw [c1, e2]
    exact hS.fz b ((ez b).1 hb)
  · rcases hg k A hk with ⟨rfl, rfl⟩ | ⟨hk0, hk⟩
    · refine ⟨by omega, trivial, ⟨by rw [ep, c5.1], fun b hb => by rw [c5.2]⟩, fun b hb => ?_, fun b hb => ?_⟩
      · rw [ep] at hb
        rw [ez]
        exact ((hpv b).1 hb).2.2.1
      · simp only [footOf, ep] at hb
        have := (hpv b).1 hb
        exact ⟨this.1, .inr (by rw [c1, e2]; exact this.2.1)⟩
    · obtain ⟨q1, q2, q3, q4, q5⟩ := hS.at_ k A hk
      have hp := (hft k A hk).1
      refine ⟨q1.2, A.ok_mono (fun k h => h.2) q2, ?_, ?_, fun b hb => ?_⟩
      · cases A with
        | box cs t b => simp only [AtomAt, eb, hdL] at q3 ⊢; exact q3
        | ro t l => simp only [AtomAt, hst, es] at q3 ⊢; exact q3
        | rop cs => simp only [AtomAt, hst, es, hd] at q3 ⊢; exact q3
        | own ty t l => simp only [AtomAt, hst, hd, c1, e2] at q3 ⊢; exact q3
        | mark => exact absurd trivial hp
        | pin => exact absurd trivial hp
        | rnd t l => exact absurd trivial hp
      · cases A with
        | box cs t b => simp only [Atom.fzn, eb, ez] at q4 ⊢; exact q4
        | own ty t l => simp only [Atom.fzn, es, ez] at q4 ⊢; exact q4
        | ro t l => trivial
        | rop cs => trivial
        | mark => exact absurd trivial hp
        | pin => exact absurd trivial hp
        | rnd t l => exact absurd trivial hp
      · rw [hfoot k A hk] at hb
        obtain ⟨r1, r2⟩ := q5 b hb
        exact ⟨r1, r2.imp id fun h => by rw [c1, e2]; exact h⟩
  · rcases hg k A hk with ⟨rfl, rfl⟩ | ⟨hk0, hk⟩
    · rcases hg k' A' hk' with ⟨rfl, rfl⟩ | ⟨hk0', hk'⟩
      · exact hne rfl
      · simp only [footOf, ep] at hb
        rw [hfoot k' A' hk'] at hb'
        exact ((hpv b).1 hb).2.2.2 k' A' hk' hb'
    · rw [hfoot k A hk] at hb
      rcases hg k' A' hk' with ⟨rfl, rfl⟩ | ⟨hk0', hk'⟩
      · simp only [footOf, ep] at hb'
        exact ((hpv b).1 hb').2.2.2 k A hk hb
      · rw [hfoot k' A' hk'] at hb'
        exact hS.dj k k' A A' hk hk' hne b hb hb'
end Go.VM

/-
Calls that write into what they are handed: the operation.
-/
set_option linter.unusedVariables false
set_option linter.unusedSimpArgs false
namespace Go.VM
open Go.RowKit
theorem frzM_key {M : List (Nat × Atom)} : ∀ {l : List (Nat × Atom)} {j : Nat} {A : Atom}, (j, A) ∈ frzM M l → ∃ A', (j, A') ∈ l
  | [], j, A, h => by simp [frzM] at h
  | (i, C) :: r, j, A, h => by
    simp only [frzM] at h
    split at h
    · simp only [List.mem_cons, Prod.mk.injEq] at h
      rcases h with ⟨rfl, _⟩ | h
      · exact ⟨C, by simp⟩
      · obtain ⟨A', hA⟩ := frzM_key h
        exact ⟨A', by simp [hA]⟩
    · obtain ⟨A', hA⟩ := frzM_key h
      exact ⟨A', by simp [hA]⟩
theorem findM_mem {g : Nat} : ∀ {l : List MSpec} {s : MSpec}, s ∈ findM g l → s ∈ l ∧ s.g = g
  | [], s, h => by simp [findM] at h
  | x :: r, s, h => by
    simp only [findM] at h
    cases hb : Nat.beq x.g g with
    | true =>
      simp only [hb, List.mem_cons] at h
      rcases h with rfl | h
      · exact ⟨by simp, Nat.eq_of_beq_eq_true hb⟩
      · have := findM_mem h
        exact ⟨by simp [this.1], this.2⟩
    | false =>
      simp only [hb] at h
      have := findM_mem h
      exact ⟨by simp [this.1], this.2⟩
section
variable {P : Program} {c : Ctx} {key : Nat} {fr : List (Nat × SV)} {M : List (Nat × Atom)} {o : Oper}
theorem snd_callM {R : Type} {ret : R} {cl : Call} (ho : o.op = .call cl) {f : Operand} (hc : cl.callee = .value f) {g : Nat} {args : List SV} {K : Res → Tree R} (hfresh : ∀ k, key ≤ k → getM k M = none)
    (hops : ∀ (E : Env) (p : Nat → Prop) (a : Act), (∀ x, x ∈ o.op.operands.toList → ∀ s, ev fr x = some s → s.ok p ∧ a.eval x = den E s) → okL p args ∧ ∃ x y : List Value, a.eval f = .func (.func g) x.toArray y.toArray ∧ x ++ cl.args.toList.map a.eval ++ y = denL E args) :
    ∀ l : List MSpec, (∀ s, s ∈ l → MSpecOK P s ∧ s.g = g) → (callM M key args K l).eval = some ret → Snd P c key fr M o fun r => (K r).eval = some ret
  | [], _, h => by simp [callM, Tree.eval] at h
  | s :: q, hl, h => by
    simp only [callM] at h
    cases hpk : packL M s.args args ⟨[], [], 1, [], 0⟩ with
    | none =>
      simp only [hpk] at h
      exact snd_callM ho hc hfresh hops q (fun s hs => hl s (by simp [hs])) h
    | some ps =>
      simp only [hpk] at h
      obtain ⟨hms, hsg⟩ := hl s (by simp)
      cases hx : ofL (tysL s.args) ps.lv.reverse with
      | none => simp [hx, Tree.eval] at h
      | some x =>
        simp only [hx, Tree.eval] at h
        obtain ⟨r, hr, h⟩ := Option.bind_eq_some_iff.1 h
        rw [dispR_eval] at h
        have hxl := toL_ofL _ _ _ hx
        split at h
        · rename_i sks hsks
          split at h
          · rename_i svs M2 n hfill
            split at h
            · rename_i ts t hlast h8
              split at h
              · rename_i l hzip
                split at h
                · rename_i hback hren
                  have h8 := Nat.le_of_ble_eq_true h8
                  simp only [backOK] at hback
                  split at hback
                  · rename_i b1 b2 b3 b4 b5
                    have hlt := allLtN_mem b3
                    have hf1 : ∀ k, (∃ j, (k, j) ∈ l ∧ phi l key k = j) ∨ phi l key k = key + k := fun k => phi_cases key k l
                    refine ⟨⟨_, _, _, _, _⟩, ⟨h8, fun E p a W g' hM hg hkk hop next Q hn' => ?_⟩, fun k hk => ?_, h⟩
                    · obtain ⟨hok, h2⟩ := hops E p a hop
                      have hgall : ∀ k, g' k = getM k M := by
                        intro k
                        by_cases hr : key ≤ k ∧ k < key + 8
                        · rw [hfresh k hr.1]
                          cases hgk : g' k with
                          | none => rfl
                          | some A =>
                            have := (hM.at_ k A hgk).1
                            exact absurd this (by have := hkk (k - key) (by omega); rwa [show key + (k - key) = k from by omega] at this)
                        · exact hg k (.inl rfl) hr
                      have hgM : SatM c E p (fun k => getM k M) W := hM.getter fun k A hA => by rw [hgall k]; exact hA
                      have hgM' : SatM c E p g' W := hM
                      obtain ⟨ss, M', E1, p1, p2, p3, p4, p5, p6, p7, p8, p9⟩ := handedL hgM hkk 1 hpk hok
                      rw [← hxl] at p1
                      obtain ⟨w0', U', pv, pobj, pf, E1', e1, e2, e3, eU, ef, epo, epv, ed, edL, hS1⟩ := satM_toM p4 p5.lo fun k A hk => ⟨(p9 k A hk).1, (p9 k A hk).2.1⟩
                      have hcall := hms.call x r hr w0' W U' pv pobj pf W.heap.size E1' ss M' ps.n p1 p3 hS1
                      rw [edL, p2] at hcall
                      rw [hsg] at hcall
                      have hent := hms.enters
                      rw [hsg] at hent
                      refine call_wp ho hc hent h2 (hcall.mono ?_)
                      rintro e W' ⟨sks0, svs0, ts0, t0, M0, n0, E2, q1, q2, q3, rfl, q5, q6, q7, q8, q9⟩
                      refine ⟨_, rfl, ?_⟩
                      rw [hsks] at q1
                      injection q1 with q1
                      subst q1
                      rw [hfill] at q2
                      simp only [Option.some.injEq, Prod.mk.injEq, and_true] at q2
                      obtain ⟨rfl, rfl, rfl⟩ := q2
                      have hlast' := lastS_eq hlast
                      rw [hlast'] at q3
                      obtain ⟨ht1, ht2⟩ := List.append_inj' q3 rfl
                      injection ht2 with ht2 _
                      subst ht1 ht2
                      -- frozen
                      have hfzc : ∀ j A, (j, A) ∈ frzM M ps.fz → ∃ B, getM j M = some B ∧ B.canFz ∧ A = frzA B := (frzM_mem ps.fz p5.fz).1
                      obtain ⟨Ef, ⟨f1, f2, f3, f4, f5⟩, f6, f7, f8, hMf⟩ := hgM.frz (frzM M ps.fz) E _ hfzc
                      have hEf : ∀ b, Ef.fz b ↔ E1.fz b := by
                        intro b
                        rw [p6 b]
                        constructor
                        · intro hb
                          rcases f7 b hb with hb | ⟨j, A, B, w1, w2, w3⟩
                          · exact .inl hb
                          · obtain ⟨A', w4⟩ := frzM_key w1
                            exact .inr ⟨j, A', B, w4, w2, w3⟩
                        · rintro (hb | ⟨j, A, B, w1, w2, w3⟩)
                          · exact f6 b hb
                          · obtain ⟨A', w4⟩ := (frzM_mem ps.fz p5.fz).2 j A w1
                            exact f8 j A' B w4 w2 b w3
                      have haf : Agree p E Ef := fun k _ => by rw [f1, f2]; exact ⟨rfl, rfl⟩
                      have hMs : SatM c Ef p (gUpd (gUpd (fun k => getM k M) (someU (frzM M ps.fz))) (undoL (renJ ps.ren))) W := hMf.getter fun k A hA => (gUpd_undo hA).2
                      -- back
                      have hzk := zipK_spec (E := E) (E' := E2) hzip (by rw [q5]; exact mutS_den s.args args ss (by rw [edL]; exact p2))
                      obtain ⟨E3, hE3⟩ : ∃ E3 : Env, E3 = ⟨fun k => if key ≤ k ∧ k < key + n then E2.blk (k - key) else Ef.blk k, fun k => if key ≤ k ∧ k < key + n then E2.slv (k - key) else Ef.slv k, fun b => Ef.fz b ∨ E2.fz b, Ef.rb, Ef.ri, Ef.pb⟩ := ⟨_, rfl⟩
                      have a1 : ∀ k, k < n → E3.blk (key + k) = E2.blk k ∧ E3.slv (key + k) = E2.slv k := fun k hk => by
                        rw [hE3]
                        simp only [show key ≤ key + k ∧ key + k < key + n from by omega, if_true, Nat.add_sub_cancel_left]
                        simp
                      have a2 : ∀ k, ¬ (key ≤ k ∧ k < key + n) → E3.blk k = E.blk k ∧ E3.slv k = E.slv k := fun k hk => by
                        rw [hE3]
                        simp only [hk, if_false, f1, f2]
                        simp
                      have ha3 : Agree p Ef E3 := fun k hk => by
                        have : ¬ (key ≤ k ∧ k < key + n) := fun hh => by
                          have := hkk (k - key) (by omega)
                          rw [show key + (k - key) = k from by omega] at this
                          exact this hk
                        rw [f1, f2]
                        exact a2 k this
                      have hb3 : ∀ k, k < n → notN (ownK ts) k = true → E3.blk (phi l key k) = E2.blk k := fun k hk hkb => by
                        rcases hf1 k with ⟨j, w1, w2⟩ | w
                        · rw [w2]
                          have := hlt j (mem_sndN w1)
                          rw [(a2 j (by omega)).1]
                          rcases hzk k j w1 with ⟨_, w3, _⟩ | ⟨w3, _⟩
                          · exact w3.symm
                          · exact absurd w3 (notN_iff.1 hkb)
                        · rw [w, (a1 k hk).1]
                      have hs3 : ∀ k, k < n → notN (ptrK ts) k = true → E3.slv (phi l key k) = E2.slv k := fun k hk hkb => by
                        rcases hf1 k with ⟨j, w1, w2⟩ | w
                        · rw [w2]
                          have := hlt j (mem_sndN w1)
                          rw [(a2 j (by omega)).2]
                          rcases hzk k j w1 with ⟨w3, _⟩ | ⟨_, w3, _⟩
                          · exact absurd w3 (notN_iff.1 hkb)
                          · exact w3.symm
                        · rw [w, (a1 k hk).2]
                      have hback := satM_backM hMs (w0' := w0') (U' := U') (pv := pv) (pobj := pobj) (pf := pf) e1 e2 e3 eU (fun b o h1 h2 => ef b o ((hEf b).1 h1) h2) q7
                        (fun b hb => ⟨by rw [(q8 b hb).1, epo], (q8 b hb).2⟩)
                        (fun k A hk b hb hge hnf => by
                          obtain ⟨w1, w2⟩ := gUpd_undo hk
                          refine epv b hge ((hMs.at_ k A hk).2.2.2.2 b hb).1 (fun hh => hnf ((hEf b).2 hh)) fun k' A' hk' hb' => ?_
                          rcases (p9 k' A' hk').2.2 with w3 | ⟨j, B, w3, w4, w5, w6⟩
                          · rw [w3] at hb'; cases hb'
                          · rw [w6] at hb'
                            have hj : gUpd (fun k => getM k M) (someU (frzM M ps.fz)) j = some B := by
                              rw [gUpd_outM]
                              · exact w4
                              · intro hh
                                obtain ⟨A0, hA0⟩ := keysU_someM hh
                                obtain ⟨A1, hA1⟩ := frzM_key hA0
                                exact p5.us k' j w3 A1 hA1
                            have hne : k ≠ j := fun e => by subst e; exact w1 (mem_renJ w3)
                            refine hMf.dj k j A B w2 hj hne b hb ?_
                            have : footOf Ef j B = footOf E j B := by
                              cases B <;> simp only [footOf, f1, f2, f3, f5]
                            rw [this]
                            exact hb')
                        q9 (f := phi l key) (kb := notN (ownK ts)) (ks := notN (ptrK ts)) (fun k k' A A' _ _ he => phi_inj b1 b3 he) (E3 := E3) ha3 hb3 hs3 (by rw [hE3]; exact fun b => Iff.rfl) (by rw [hE3]; exact ⟨rfl, rfl, rfl⟩)
                        (fun k A hk => usesM_mem b5 k A (getM_mem' hk))
                      have hfp : ∀ k, k < n → p (phi l key k) ∨ key ≤ phi l key k ∧ phi l key k < key + n := fun k hk => by
                        rcases hf1 k with ⟨j, w1, w2⟩ | w
                        · rw [w2]
                          refine .inl ?_
                          rcases hzk k j w1 with ⟨_, _, o', w3⟩ | ⟨_, _, w3⟩
                          · have := (okL_iff p args).1 hok _ (mutS_mem _ _ _ w3)
                            exact this
                          · have := (okL_iff p args).1 hok _ (mutS_mem _ _ _ w3)
                            exact this
                        · rw [w]; exact .inr (by omega)
                      have htok : t.ok (fun k => k < n) := (okL_iff _ svs).1 q6 t (by rw [hlast']; simp)
                      rw [← den_rn2 hb3 hs3 t htok b4]
                      refine hn' E3 W' (fun k hk => ?_) ?_ ?_
                      · have := ha3 k hk
                        rw [f1, f2] at this
                        exact this
                      · refine (hback.monoP fun k hk => ?_).getter fun k A hA => ?_
                        · rcases hk with hk | ⟨i, hi, rfl⟩
                          · exact .inl hk
                          · exact hfp i hi
                        · rw [gUpd_appM] at hA
                          have e5 : gUpd g' (undoL (renJ ps.ren) ++ someU (frzM M ps.fz)) = gUpd (gUpd (fun k => getM k M) (someU (frzM M ps.fz))) (undoL (renJ ps.ren)) := funext fun k => by
                            rw [gUpd_appM, show g' = fun k => getM k M from funext hgall]
                          rw [e5] at hA
                          exact hA
                      · exact ok_rn hfp t htok
                    · rw [keysU_app, keysU_app, List.mem_append, List.mem_append] at hk
                      obtain ⟨hn0, hk2⟩ := fillL_keys _ _ _ _ _ _ _ hfill
                      rcases hk with hk | hk | hk
                      · obtain ⟨A, hA⟩ := keysU_someM hk
                        obtain ⟨i, A', hi, rfl⟩ := mem_rnM hA
                        have := hk2 i A' hi
                        rcases hf1 i with ⟨j, w1, w2⟩ | w
                        · have := hlt j (mem_sndN w1)
                          omega
                        · omega
                      · have := allLtN_mem hren k (keysU_undo _ k hk)
                        omega
                      · obtain ⟨A, hA⟩ := keysU_someM hk
                        have : ∃ B, getM k M = some B := by
                          have : ∀ (l : List (Nat × Atom)), (k, A) ∈ frzM M l → ∃ B, getM k M = some B := by
                            intro l
                            induction l with
                            | nil => intro h; simp [frzM] at h
                            | cons y r ih =>
                              obtain ⟨i, C⟩ := y
                              intro h
                              simp only [frzM] at h
                              split at h
                              · rename_i B hB
                                simp only [List.mem_cons, Prod.mk.injEq] at h
                                rcases h with ⟨rfl, _⟩ | h
                                · exact ⟨B, hB⟩
                                · exact ih h
                              · exact ih h
                          exact this _ hA
                        obtain ⟨B, hB⟩ := this
                        have : ¬ key ≤ k := fun hle => by rw [hfresh k hle] at hB; cases hB
                        omega
                  · cases hback
                · simp [Tree.eval] at h
              · simp [Tree.eval] at h
            · simp [Tree.eval] at h
          · simp [Tree.eval] at h
        · simp [Tree.eval] at h
end
end Go.VM

/-
Calls that write into what they are handed: what is told of the functions.
-/
set_option linter.unusedVariables false
set_option linter.unusedSimpArgs false
namespace Go.VM
open Go.RowKit
/-- What is told of the functions, holds. -/
structure OKO (P : Program) (V : VE) : Prop where
  o : ∀ s, s ∈ V.O → SpecOK P s
  m : ∀ s, s ∈ V.MS → MSpecOK P s
theorem OKO.of_nil {P : Program} {V : VE} (h : ∀ s, s ∈ V.O → SpecOK P s) (hm : V.MS = []) : OKO P V := ⟨h, fun s hs => by rw [hm] at hs; cases hs⟩
theorem OKO.find {P : Program} {V : VE} (h : OKO P V) {g : Nat} : ∀ s, s ∈ findM g V.MS → MSpecOK P s ∧ s.g = g := fun s hs => by
  obtain ⟨h1, h2⟩ := findM_mem hs
  exact ⟨h.m s h1, h2⟩
end Go.VM

/-
The operations are sound.
-/
set_option linter.unusedVariables false
set_option linter.unusedSimpArgs false
namespace Go.VM
open Go.RowKit
section
variable {R : Type} {V : VE} {P : Program} {c : Ctx} {key : Nat} {fr : List (Nat × SV)} {M : List (Nat × Atom)} {K : Res → Tree R} {o : Oper} {ret : R}

theorem two_types {cl : Call} {t u : Nat} (h : cl.argTypes.toList = [t, u]) : cl.argTypes = #[t, u] := by
  rw [← Array.toArray_toList (xs := cl.argTypes), h]

theorem es_call (hY : YieldsOK P c) (hT : TabOK V.tab P) (hO : OKO P V) (hfresh : ∀ k, key ≤ k → getM k M = none) {cl : Call} (ho : o.op = .call cl) (h : (vmOp V key fr M (.call cl) K).eval = some ret) : Snd P c key fr M o fun r => (K r).eval = some ret := by
  simp only [vmOp] at h
  split at h
  · rename_i b hb
    split at h
    · exact (fail_eval h).elim
    · rename_i args hargs
      split at h
      · -- len
        split at h
        · rename_i t ht
          cases htab : V.tab t with
          | none => simp only [htab] at h; exact (fail_eval h).elim
          | some i =>
            simp only [htab] at h
            cases hk : Nat.beq i.kind 3 with
            | false => simp only [hk] at h; exact (fail_eval h).elim
            | true =>
              simp only [hk] at h
              have hk := Nat.eq_of_beq_eq_true hk
              have ht0 : cl.argTypes[0]? = some t := by
                have : cl.argTypes = #[t] := by rw [← Array.toArray_toList (xs := cl.argTypes), ht]
                simp [this]
              split at h
              · rename_i j
                obtain ⟨x, hx1, hx2⟩ := evL_one hargs
                split at h
                · rename_i T l hj
                  exact .val (snd_len hT ho hb hx1 ht0 htab hk hx2 (n := l.length) (rd := [j]) (fun E p W g hM hg hkk hok => by
                    have := (ro_len hM (getM_of hM hg hok hkk hj)).1
                    exact ⟨_, _, by simp only [den]; rw [this]⟩) rfl) h
                · rename_i ty T l hj
                  exact .val (snd_len hT ho hb hx1 ht0 htab hk hx2 (n := l.length) (rd := [j]) (fun E p W g hM hg hkk hok => by
                    have := (own_len hM (getM_of hM hg hok hkk hj)).1
                    exact ⟨_, _, by simp only [den]; rw [this]⟩) rfl) h
                · exact (fail_eval h).elim
              · rename_i j off n q
                obtain ⟨x, hx1, hx2⟩ := evL_one hargs
                exact .val (snd_len hT ho hb hx1 ht0 htab hk hx2 (n := n) (rd := []) (fun E p W g hM hg hkk hok => ⟨_, _, rfl⟩) rfl) h
              · rename_i A n q
                obtain ⟨x, hx1, hx2⟩ := evL_one hargs
                exact .val (snd_len hT ho hb hx1 ht0 htab hk hx2 (n := n) (rd := []) (fun E p W g hM hg hkk hok => ⟨_, _, rfl⟩) rfl) h
              · exact (fail_eval h).elim
        · exact (fail_eval h).elim
      · -- min
        split at h
        · rename_i k a k' b'
          obtain ⟨x, y, h1, h2, h3⟩ := evL_two hargs
          exact .val (snd_minmax ho hb h1 h2 h3 (.inr ⟨rfl, rfl⟩)) h
        · exact (fail_eval h).elim
      · -- max
        split at h
        · rename_i k a k' b'
          obtain ⟨x, y, h1, h2, h3⟩ := evL_two hargs
          exact .val (snd_minmax ho hb h1 h2 h3 (.inl ⟨rfl, rfl⟩)) h
        · exact (fail_eval h).elim
      · -- append
        split at h
        · rename_i t u d s htys
          obtain ⟨x, y, h1, h2, h3⟩ := evL_two hargs
          split at h
          · rename_i i htu hi
            have := Nat.eq_of_beq_eq_true htu
            subst this
            split at h
            · rename_i e hk he
              split at h
              · rename_i T hTy
                split at h
                · rename_i l ks r1 xs r2 fz hd hs
                  cases hks : hasKs r1 fz with
                  | true => simp only [hks] at h; exact (fail_eval h).elim
                  | false =>
                    simp only [hks] at h
                    rcases Tree.ite_eval h with ⟨hroom, h⟩ | ⟨_, h⟩
                    · refine ⟨_, snd_append hT ho hb h1 (two_types htys) hi (Nat.eq_of_beq_eq_true hk) he hTy h2 h3 hd hs hks hroom, fun k hk => ?_, h⟩
                      have hb' : k = key ∨ k ∈ ks ∨ ∃ A, (k, A) ∈ fz := by
                        simp only [keysU, List.mem_cons] at hk
                        rcases hk with hk | hk
                        · exact .inl hk
                        · refine .inr ?_
                          have : ∀ (ks : List Nat) (fz : List (Nat × Atom)), k ∈ keysU (undoL ks ++ someU fz) → k ∈ ks ∨ ∃ A, (k, A) ∈ fz := by
                            intro ks fz
                            induction ks with
                            | nil =>
                              simp only [undoL, List.nil_append]
                              induction fz with
                              | nil => intro h; simp [someU, keysU] at h
                              | cons y r ih =>
                                intro h
                                obtain ⟨j, B⟩ := y
                                simp only [someU, keysU, List.mem_cons] at h
                                rcases h with rfl | h
                                · exact .inr ⟨B, by simp⟩
                                · rcases ih h with h | ⟨A, hA⟩
                                  · exact .inl h
                                  · exact .inr ⟨A, by simp [hA]⟩
                            | cons j r ih =>
                              intro h
                              simp only [undoL, List.cons_append, keysU, List.mem_cons] at h
                              rcases h with rfl | h
                              · exact .inl (by simp)
                              · rcases ih h with h | h
                                · exact .inl (by simp [h])
                                · exact .inr h
                          exact this ks fz hk
                      rcases hb' with rfl | hb' | ⟨A, hA⟩
                      · omega
                      · have : ∃ A, getM k M = some A := by
                          cases d with
                          | own j =>
                            simp only [dstOf] at hd
                            split at hd
                            · rename_i ty' t' l' hj
                              split at hd
                              · simp only [Option.some.injEq, Prod.mk.injEq] at hd
                                obtain ⟨_, rfl, _⟩ := hd
                                simp only [List.mem_singleton] at hb'
                                subst hb'
                                exact ⟨_, hj⟩
                              · simp at hd
                            · simp at hd
                          | sl j off n q =>
                            cases off with
                            | succ _ => simp [dstOf] at hd
                            | zero =>
                              simp only [dstOf] at hd
                              split at hd
                              · rename_i cs ty' hj _
                                split at hd
                                · simp only [Option.some.injEq, Prod.mk.injEq] at hd
                                  obtain ⟨_, rfl, _⟩ := hd
                                  simp only [List.mem_singleton] at hb'
                                  subst hb'
                                  exact ⟨_, hj⟩
                                · simp at hd
                              · simp at hd
                          | v x =>
                            cases x with
                            | slice A n q =>
                              cases A <;> cases n <;> cases q <;> simp [dstOf] at hd
                              obtain ⟨_, rfl, _⟩ := hd
                              simp at hb'
                            | _ => simp [dstOf] at hd
                          | _ => simp [dstOf] at hd
                        obtain ⟨A, hA⟩ := this
                        have := lt_key hfresh hA
                        omega
                      · have : ∃ A, getM k M = some A := by
                          simp only [srcOf'] at hs
                          split at hs
                          · split at hs
                            · cases s with
                              | sl j off n q =>
                                simp only at hs
                                split at hs
                                · simp only [Option.some.injEq, Prod.mk.injEq] at hs
                                  obtain ⟨_, _, rfl⟩ := hs
                                  obtain ⟨_, ty', t', l', hj, _⟩ := mem_frzK _ _ _ hA
                                  exact ⟨_, hj⟩
                                · simp at hs
                              | own j =>
                                simp only [Option.some.injEq, Prod.mk.injEq] at hs
                                obtain ⟨_, _, rfl⟩ := hs
                                simp at hA
                              | _ =>
                                simp only [Option.some.injEq, Prod.mk.injEq] at hs
                                obtain ⟨_, _, rfl⟩ := hs
                                simp at hA
                            · simp at hs
                          · simp at hs
                        obtain ⟨A, hA⟩ := this
                        have := lt_key hfresh hA
                        omega
                    · exact (fail_eval h).elim
                · exact (fail_eval h).elim
              · exact (fail_eval h).elim
            · exact (fail_eval h).elim
          · exact (fail_eval h).elim
        · exact (fail_eval h).elim
      · exact (fail_eval h).elim
  · rename_i f hc
    split at h
    · rename_i g a b args hf hargs
      split at h
      · rename_i ha hb
        split at h
        · exact snd_callZ h hfresh fun M Mr rd full sks ls K hres hsk hfresh h => snd_callF hO.o ho hc hf ha hb hargs hres hsk h hfresh
        · refine snd_callM (g := g) ho hc hfresh (fun E p act hop => ?_) _ hO.find h
          obtain ⟨h1, h2⟩ := evL_spec (E := E) (p := p) (ρ := act.eval) _ _ hargs (fun x hx => hop x (by rw [ho]; simp [Op.operands, Call.operands, hc]; exact .inr (by simpa using hx)))
          have hfo := (hop f (by rw [ho]; simp [Op.operands, Call.operands, hc]) _ hf).2
          have ea : a = #[] := by rw [← Array.toArray_toList (xs := a), ha]
          have eb : b = #[] := by rw [← Array.toArray_toList (xs := b), hb]
          subst ea eb
          exact ⟨h1, [], [], by rw [hfo, den], by simpa using h2⟩
      · exact (fail_eval h).elim
    · rename_i j args hf hargs
      exact snd_yieldV hY ho hc hargs hf h hfresh
    · rename_i g a b args hf hargs
      split at h
      · refine snd_callM (g := g) ho hc hfresh (fun E p act hop => ?_) _ hO.find h
        obtain ⟨h1, h2⟩ := evL_spec (E := E) (p := p) (ρ := act.eval) _ _ hargs (fun x hx => hop x (by rw [ho]; simp [Op.operands, Call.operands, hc]; exact .inr (by simpa using hx)))
        obtain ⟨h6, h7⟩ := hop f (by rw [ho]; simp [Op.operands, Call.operands, hc]) _ hf
        refine ⟨(okL_iff p _).2 fun s hs => ?_, denL E a, denL E b, by rw [h7, den], by rw [h2, denL_append, denL_append]⟩
        simp only [List.mem_append] at hs
        rcases hs with (hs | hs) | hs
        · exact (okL_iff p a).1 h6.1 s hs
        · exact (okL_iff p args).1 h1 s hs
        · exact (okL_iff p b).1 h6.2 s hs
      · refine snd_callZ h hfresh fun M Mr rd full sks ls K hres hmk hfresh h => ?_
        split at hmk
        · rename_i x l y q z r hx hy hz
          simp only [Option.some.injEq, Prod.mk.injEq] at hmk
          obtain ⟨rfl, rfl⟩ := hmk
          exact snd_callC hO.o ho hc hf hargs hres hx hy hz h hfresh
        · cases hmk
    · exact (fail_eval h).elim
  · exact (fail_eval h).elim

/-- **Operations.** -/
theorem vmOp_sound (hY : YieldsOK P c) (hT : TabOK V.tab P) (hO : OKO P V) (hfresh : ∀ k, key ≤ k → getM k M = none) (h : (vmOp V key fr M o.op K).eval = some ret) : Snd P c key fr M o fun r => (K r).eval = some ret := by
  cases hop : o.op with
  | move x => rw [hop] at h; exact es_move (.inl hop) h
  | assign x => rw [hop] at h; exact es_move (.inr hop) h
  | pick x a b => rw [hop] at h; exact es_pick hop h
  | alloc t => rw [hop] at h; exact es_alloc hT hop h
  | box t x => rw [hop] at h; exact es_box hop h
  | load t a => rw [hop] at h; exact es_load hT hop h
  | store t a x => rw [hop] at h; exact es_store hT hfresh hop h
  | nilCheck x => rw [hop] at h; exact es_nilCheck hop h
  | binOp op xt x y yt => rw [hop] at h; exact es_binOp hT hop h
  | unOp op t x => rw [hop] at h; exact es_unOp hop h
  | fieldAddr t x f => rw [hop] at h; exact es_fieldAddr hT hop h
  | indexAddr t x q => rw [hop] at h; exact es_indexAddr hT hop h
  | index t x q => rw [hop] at h; exact es_index hT hop h
  | slice t x lo hi mx => rw [hop] at h; exact es_slice hT hfresh hop h
  | extract x n => rw [hop] at h; exact es_extract hop h
  | makeFunc f a b => rw [hop] at h; exact es_makeFunc hop h
  | build t parts => rw [hop] at h; exact es_build hT hop h
  | buildSlice t n parts => rw [hop] at h; exact es_buildSlice hT hfresh hop h
  | makeSlice t x y => rw [hop] at h; exact es_makeSlice hT hop h
  | convert s t x => rw [hop] at h; exact es_convert hT hop h
  | call cl => rw [hop] at h; exact es_call hY hT hO hfresh hop h
  | _ => rw [hop] at h; exact (fail_eval (by simpa only [vmOp] using h)).elim

theorem part_sound {K : Res → Tree R} (h : Snd P c key fr M o fun r => (part K r).eval = some ret) : Snd P c key fr M o fun r => (K r).eval = some ret := by
  obtain ⟨r, h1, h2, h3⟩ := h
  refine ⟨r, h1, h2, ?_⟩
  obtain ⟨sv, u, nk, rd, full⟩ := r
  simp only [part] at h3
  split at h3
  · rename_i b
    rcases Tree.ite_eval h3 with ⟨rfl, h3⟩ | ⟨rfl, h3⟩ <;> exact h3
  · exact h3
end
end Go.VM

/-
Regions: the operations, one behind the other.
-/
set_option linter.unusedVariables false
set_option linter.unusedSimpArgs false
namespace Go.VM
open Go.RowKit
/-- The frame has its size, and the slots that stay are as they were. -/
structure Ctx.Tm (c : Ctx) (a : Act) : Prop where
  size : a.tmps.size = c.nt
  keep : ∀ t v, c.tm t = some v → a.tmps[t]? = some v
def Ctx.free (c : Ctx) (d : Nat) : Prop := d < c.nt ∧ c.tm d = none
theorem Ctx.Tm.put {c : Ctx} {a : Act} (h : c.Tm a) {d : Option Nat} (hd : ∀ t, d = some t → c.free t) (v : Value) : c.Tm (a.put d v) := by
  cases d with
  | none => exact h
  | some u =>
    refine ⟨by simpa [Act.put] using h.size, fun t x hx => ?_⟩
    have hu := hd u rfl
    have hne : u ≠ t := fun e => by subst e; rw [hu.2] at hx; cases hx
    simp only [Act.put]
    rw [Array.getElem?_setIfInBounds_ne hne]
    exact h.keep t x hx

/-- The state, the frame with it. -/
structure SatS (c : Ctx) (E : Env) (p : Nat → Prop) (st : St) (a : Act) (W : World) : Prop where
  mem : SatM c E p (fun k => getM k st.M) W
  key : ∀ k, p k → k < st.next
  fr : ∀ t s, look t st.fr = some s → s.ok p ∧ a.tmps[t]? = some (den E s)
  defers : a.defers = st.mks.map (fun k => { target := .collected (E.blk k), args := #[] }) ∧ ∀ k, k ∈ st.mks → p k
  sz : c.Tm a



theorem look_put (d : Option Nat) (s : SV) (fr : List (Nat × SV)) (t : Nat) : look t (putF d s fr) = if d = some t then some s else look t fr := by
  cases d with
  | none => simp [putF]
  | some u =>
    simp only [putF, look]
    cases hb : Nat.beq u t with
    | true => simp [Nat.eq_of_beq_eq_true hb]
    | false =>
      have : u ≠ t := fun e => by subst e; rw [Nat.beq_refl] at hb; cases hb
      simp [this]

theorem gUpd_in {g g' : Nat → Option Atom} : ∀ (u : List (Nat × Option Atom)) (k : Nat), k ∈ keysU u → gUpd g u k = gUpd g' u k
  | [], k, h => by simp [keysU] at h
  | (j, A) :: r, k, h => by
    simp only [gUpd]
    by_cases e : k = j
    · simp [e]
    · rw [if_neg e, if_neg e]
      exact gUpd_in r k (by simpa [keysU, e] using h)
theorem gUpd_out {g : Nat → Option Atom} : ∀ (u : List (Nat × Option Atom)) (k : Nat), k ∉ keysU u → gUpd g u k = g k
  | [], k, h => rfl
  | (j, A) :: r, k, h => by
    simp only [keysU, List.mem_cons, not_or] at h
    simp only [gUpd, if_neg h.1]
    exact gUpd_out r k h.2

/-- What a guard asks, is so; is not so. -/
def guardT (all : List Oper) (o : Oper) (fr : List (Nat × SV)) : Prop :=
  o.guard = none ∨ ∃ j want t, o.guard = some (j, want) ∧ (all[j]?).bind (·.dst) = some t ∧ look t fr = some (.v (.bool want))
def guardF (all : List Oper) (o : Oper) (fr : List (Nat × SV)) : Prop :=
  ∃ j want t x, o.guard = some (j, want) ∧ (all[j]?).bind (·.dst) = some t ∧ look t fr = some (.v x) ∧ x ≠ .bool want

def skipR : Res := ⟨.v undef, [], 0, [], false⟩

def StepOK (P : Program) (c : Ctx) (all : List Oper) (key : Nat) (o : Oper) (fr : List (Nat × SV)) (M : List (Nat × Atom)) (r : Res) : Prop :=
  (∀ k, key ≤ k → getM k M = none) ∧ (∀ k, k ∈ keysU r.upd → k < key + 8) ∧ ((OpOK P c key o fr M r ∧ guardT all o fr) ∨ (r = skipR ∧ guardF all o fr))

def fpOf (r : Res) : Fp := ⟨r.rd, keysU r.upd, r.full⟩

/-- The region's run in the text's order. -/
def Trace (P : Program) (c : Ctx) (all : List Oper) : List (Oper × Res) → Nat → List (Nat × SV) → List (Nat × Atom) → List (Nat × SV) → List (Nat × Atom) → Prop
  | [], _, fr, M, fr', M' => fr' = fr ∧ M' = M
  | (o, r) :: L, key, fr, M, fr', M' => StepOK P c all key o fr M r ∧ Trace P c all L (key + 8) (putF o.dst r.sv fr) (updM M r.upd) fr' M'

theorem fresh_upd {M : List (Nat × Atom)} {key : Nat} {u : List (Nat × Option Atom)} (h : ∀ k, key ≤ k → getM k M = none) (hu : ∀ k, k ∈ keysU u → k < key + 8) : ∀ k, key + 8 ≤ k → getM k (updM M u) = none := by
  intro k hk
  rw [updM_get, gUpd_out u k (fun hm => by have := hu k hm; omega)]
  exact h k (by omega)

section
variable {R : Type} {V : VE} {P : Program} {c : Ctx} {ret : R}

theorem vmOps_trace (hY : YieldsOK P c) (hT : TabOK V.tab P) (hO : OKO P V) (all : List Oper) : ∀ (rest : List Oper) (key : Nat) (fr : List (Nat × SV)) (M : List (Nat × Atom)) (tr : List Fp) (K : List (Nat × SV) → List (Nat × Atom) → List Fp → Tree R),
    (∀ k, key ≤ k → getM k M = none) → (vmOps V all rest key fr M tr K).eval = some ret →
    ∃ L fr' M', L.map (·.1) = rest ∧ Trace P c all L key fr M fr' M' ∧ (K fr' M' ((L.map (fun x => fpOf x.2)).reverse ++ tr)).eval = some ret
  | [], key, fr, M, tr, K, _, h => ⟨[], fr, M, rfl, ⟨rfl, rfl⟩, h⟩
  | o :: rest, key, fr, M, tr, K, hfresh, h => by
    have run : guardT all o fr → (vmOp V key fr M o.op (part fun r => vmOps V all rest (key + 8) (putF o.dst r.sv fr) (updM M r.upd) (⟨r.rd, keysU r.upd, r.full⟩ :: tr) K)).eval = some ret →
        ∃ L fr' M', L.map (·.1) = o :: rest ∧ Trace P c all L key fr M fr' M' ∧ (K fr' M' ((L.map (fun x => fpOf x.2)).reverse ++ tr)).eval = some ret := by
      intro hg hx
      obtain ⟨r, h1, h2, h3⟩ := part_sound (vmOp_sound hY hT hO hfresh hx)
      obtain ⟨L, fr', M', e1, e2, e3⟩ := vmOps_trace hY hT hO all rest (key + 8) _ _ _ K (fresh_upd hfresh h2) h3
      exact ⟨(o, r) :: L, fr', M', by simp [e1], ⟨⟨hfresh, h2, .inl ⟨h1, hg⟩⟩, e2⟩, by simpa [fpOf] using e3⟩
    have skip : guardF all o fr → (vmOps V all rest (key + 8) (putF o.dst (.v undef) fr) M (⟨[], [], false⟩ :: tr) K).eval = some ret →
        ∃ L fr' M', L.map (·.1) = o :: rest ∧ Trace P c all L key fr M fr' M' ∧ (K fr' M' ((L.map (fun x => fpOf x.2)).reverse ++ tr)).eval = some ret := by
      intro hg hx
      obtain ⟨L, fr', M', e1, e2, e3⟩ := vmOps_trace hY hT hO all rest (key + 8) _ _ _ K (fun k hk => hfresh k (by omega)) hx
      exact ⟨(o, skipR) :: L, fr', M', by simp [e1], ⟨⟨hfresh, by simp [skipR, keysU], .inr ⟨rfl, hg⟩⟩, e2⟩, by simpa [fpOf, skipR, keysU] using e3⟩
    simp only [vmOps] at h
    split at h
    · rename_i hg
      exact run (.inl hg) h
    · rename_i j want hg
      split at h
      · exact (fail_eval h).elim
      · rename_i t ht
        split at h
        · rename_i b hb
          cases want <;> simp only at h
          · rcases Tree.ite_eval h with ⟨rfl, h⟩ | ⟨rfl, h⟩
            · exact skip ⟨j, _, t, _, hg, ht, hb, by simp⟩ h
            · exact run (.inr ⟨j, _, t, hg, ht, hb⟩) h
          · rcases Tree.ite_eval h with ⟨rfl, h⟩ | ⟨rfl, h⟩
            · exact run (.inr ⟨j, _, t, hg, ht, hb⟩) h
            · exact skip ⟨j, _, t, _, hg, ht, hb, by simp⟩ h
        · rename_i x hx hne
          exact skip ⟨j, want, t, x, hg, ht, hne, fun e => hx want e⟩ h
        · exact (fail_eval h).elim

/-- A guard, in the model's words. -/
theorem wanted_of {all : List Oper} {o : Oper} {fr : List (Nat × SV)} {a : Act} {E : Env} (hfr : ∀ t s, look t fr = some s → a.tmps[t]? = some (den E s)) :
    (guardT all o fr → Region.wanted o (yielded all.toArray a.tmps) = true) ∧ (guardF all o fr → Region.wanted o (yielded all.toArray a.tmps) = false) := by
  refine ⟨fun h => ?_, fun ⟨j, want, t, x, h1, h2, h3, h4⟩ => ?_⟩
  · rcases h with h | ⟨j, want, t, h1, h2, h3⟩
    · simp [Region.wanted, h]
    · have h5 := hfr t _ h3
      simp only [den] at h5
      have h2' : (all.toArray[j]?).bind (·.dst) = some t := by simpa using h2
      simp only [Region.wanted, h1, yielded, h2', Option.bind_some, h5, beq_self_eq_true]
  · have h5 := hfr t _ h3
    simp only [den] at h5
    have h2' : (all.toArray[j]?).bind (·.dst) = some t := by simpa using h2
    simp only [Region.wanted, h1, yielded, h2', Option.bind_some, h5]
    cases x <;> simp_all

theorem ev_ok {fr : List (Nat × SV)} {p : Nat → Prop} {a : Act} {E : Env} (hfr : ∀ t s, look t fr = some s → s.ok p ∧ a.tmps[t]? = some (den E s)) (x : Operand) (s : SV) (h : ev fr x = some s) : s.ok p ∧ a.eval x = den E s := by
  cases x with
  | tmp t =>
    obtain ⟨h1, h2⟩ := hfr t s h
    exact ⟨h1, by simp [Act.eval, Array.getD_eq_getD_getElem?, h2]⟩
  | const v => simp only [ev, Option.some.injEq] at h; subst h; exact ⟨trivial, rfl⟩
  | global g => simp only [ev, Option.some.injEq] at h; subst h; exact ⟨trivial, rfl⟩
  | func f => simp only [ev, Option.some.injEq] at h; subst h; exact ⟨trivial, rfl⟩

/-- A slot is written. -/
theorem put_fr {fr : List (Nat × SV)} {p p' : Nat → Prop} {a : Act} {E E' : Env} {d : Option Nat} {s : SV} (hfr : ∀ t s, look t fr = some s → s.ok p ∧ a.tmps[t]? = some (den E s)) (ha : Agree p E E') (hp : ∀ k, p k → p' k) (hs : s.ok p')
    (hd : ∀ t, d = some t → t < a.tmps.size) : ∀ t q, look t (putF d s fr) = some q → q.ok p' ∧ (a.put d (den E' s)).tmps[t]? = some (den E' q) := by
  intro t q h
  rw [look_put] at h
  cases d with
  | none =>
    simp at h
    obtain ⟨h1, h2⟩ := hfr t q h
    exact ⟨ok_mono hp q h1, by simp only [Act.put]; rw [h2, den_agree ha q h1]⟩
  | some u =>
    by_cases e : u = t
    · subst e
      simp at h
      subst h
      have := hd u rfl
      refine ⟨hs, ?_⟩
      simp [Act.put, this]
    · have e' : ¬ (some u = some t) := by simpa using e
      rw [if_neg e'] at h
      obtain ⟨h1, h2⟩ := hfr t q h
      refine ⟨ok_mono hp q h1, ?_⟩
      simp only [Act.put]
      rw [Array.getElem?_setIfInBounds_ne e, h2, den_agree ha q h1]

theorem put_size (a : Act) (d : Option Nat) (v : Value) : (a.put d v).tmps.size = a.tmps.size := by cases d <;> simp [Act.put]
theorem put_defers (a : Act) (d : Option Nat) (v : Value) : (a.put d v).defers = a.defers := by cases d <;> simp [Act.put]

theorem seq_sound {all : List Oper} {mks : List Nat} {p0 : Nat → Prop} {E0 : Env} {Q : Exit → Act → World → Prop} : ∀ (L : List (Oper × Res)) (i key : Nat) (fr fr' : List (Nat × SV)) (M M' : List (Nat × Atom)), Trace P c all L key fr M fr' M' → (∀ j, (L.map (·.1))[j]? = all[i + j]?) →
    (∀ x, x ∈ L → ∀ d, x.1.dst = some d → c.free d) → (∀ E p a W, Ext p0 p E0 E → SatS c E p ⟨fr', M', key + 8 * L.length, mks⟩ a W → Q .normal a W) →
    ∀ E p a W, Ext p0 p E0 E → SatS c E p ⟨fr, M, key, mks⟩ a W → wpOpsIn c.F 9 P all.toArray Q (List.range' i L.length) a W
  | [], i, key, fr, fr', M, M', h, _, _, hQ, E, p, a, W, hX, hS => by
    obtain ⟨rfl, rfl⟩ := h
    simp only [List.length_nil, List.range'_zero, wpOpsIn]
    exact hQ E p a W hX (by simpa using hS)
  | (o, r) :: L, i, key, fr, fr', M, M', h, hall, hd, hQ, E, p, a, W, hX, hS => by
    obtain ⟨⟨hfresh, hu, hstep⟩, h⟩ := h
    have hi : all.toArray[i]? = some o := by
      have := hall 0
      simp at this
      simpa using this.symm
    have hsz : ∀ t, o.dst = some t → t < a.tmps.size := fun t ht => by rw [hS.sz.size]; exact (hd (o, r) (by simp) t ht).1
    have hkk : ∀ q, q < 8 → ¬ p (key + q) := fun q _ hp => by have := hS.key _ hp; simp at this; omega
    have next : ∀ E' p' W', Agree p E E' → (∀ k, p k → p' k) → (∀ k, p' k → k < key + 8) → SatM c E' p' (fun k => getM k (updM M r.upd)) W' → r.sv.ok p' →
        wpOpsIn c.F 9 P all.toArray Q (List.range' (i + 1) L.length) (a.put o.dst (den E' r.sv)) W' := by
      intro E' p' W' ha hp hk' hM hok
      refine seq_sound L (i + 1) (key + 8) _ fr' _ M' h (fun j => ?_) (fun x hx => hd x (by simp [hx])) (fun E p a W hX hS => hQ E p a W hX (by
        have : key + 8 + 8 * L.length = key + 8 * (L.length + 1) := by omega
        simpa [this] using hS)) E' p' _ W' (hX.trans ⟨hp, ha⟩) ⟨hM, hk', put_fr hS.fr ha hp hok hsz, ?_, ?_⟩
      · have := hall (j + 1)
        simp at this ⊢
        rw [this]
        congr 1
        omega
      · rw [put_defers]
        refine ⟨?_, fun k hk => hp k (hS.defers.2 k hk)⟩
        rw [hS.defers.1]
        exact List.map_congr_left fun k hk => by rw [(ha k (hS.defers.2 k hk)).1]
      · exact hS.sz.put (fun t ht => hd (o, r) (by simp) t ht) _
    simp only [List.length_cons, List.range'_succ, wpOpsIn, hi]
    have hw := wanted_of (all := all) (o := o) (a := a) (E := E) (fun t s h => (hS.fr t s h).2)
    rcases hstep with ⟨hop, hg⟩ | ⟨rfl, hg⟩
    · rw [if_pos (hw.1 hg)]
      refine (hop.2 E p a W (fun k => getM k M) hS.mem (fun k _ _ => rfl) hkk (fun x _ s hs => ev_ok hS.fr x s hs) _ _ fun E' W' ha hM hok => ?_)
      refine next E' _ W' ha (fun _ h => .inl h) (fun k hk => ?_) (hM.getter fun k A hA => by rw [← updM_get]; exact hA) hok
      rcases hk with hk | hk
      · have := hS.key k hk; simp at this; omega
      · have := hop.1; omega
    · rw [if_neg (by rw [hw.2 hg]; simp)]
      refine ⟨fun _ _ => trivial, ?_⟩
      have := next E p W (Agree.refl p E) (fun _ h => h) (fun k hk => by have := hS.key k hk; simp at this; omega) (by simpa [skipR, updM] using hS.mem) trivial
      simpa [skipR, den] using this
end
end Go.VM

/-
Regions whose order is open.
-/
set_option linter.unusedVariables false
set_option linter.unusedSimpArgs false
namespace Go.VM
open Go.RowKit


/-- The frame behind those operations of a list that S names. -/
def fF : Nat → List (Oper × Res) → (Nat → Bool) → List (Nat × SV) → List (Nat × SV)
  | _, [], _, fr => fr
  | i, (o, r) :: L, S, fr => fF (i + 1) L S (if S i then putF o.dst r.sv fr else fr)
def fM : Nat → List (Oper × Res) → (Nat → Bool) → List (Nat × Atom) → List (Nat × Atom)
  | _, [], _, M => M
  | i, (o, r) :: L, S, M => fM (i + 1) L S (if S i then updM M r.upd else M)

theorem fF_none : ∀ (L : List (Oper × Res)) (i : Nat) (S : Nat → Bool) (fr : List (Nat × SV)), (∀ j, i ≤ j → S j = false) → fF i L S fr = fr
  | [], _, _, _, _ => rfl
  | (o, r) :: L, i, S, fr, h => by simp only [fF, h i (Nat.le_refl _)]; exact fF_none L (i + 1) S fr fun j hj => h j (by omega)
theorem fM_none : ∀ (L : List (Oper × Res)) (i : Nat) (S : Nat → Bool) (M : List (Nat × Atom)), (∀ j, i ≤ j → S j = false) → fM i L S M = M
  | [], _, _, _, _ => rfl
  | (o, r) :: L, i, S, M, h => by simp only [fM, h i (Nat.le_refl _)]; exact fM_none L (i + 1) S M fun j hj => h j (by omega)

theorem fF_look (t : Nat) : ∀ (L : List (Oper × Res)) (i : Nat) (S S' : Nat → Bool) (fr fr' : List (Nat × SV)), look t fr = look t fr' → (∀ j x, L[j]? = some x → x.1.dst = some t → S (i + j) = S' (i + j)) → look t (fF i L S fr) = look t (fF i L S' fr')
  | [], _, _, _, _, _, h, _ => h
  | (o, r) :: L, i, S, S', fr, fr', h, hs => by
    simp only [fF]
    refine fF_look t L (i + 1) S S' _ _ ?_ (fun j x hx hd => by have := hs (j + 1) x (by simpa using hx) hd; rwa [show i + (j + 1) = i + 1 + j from by omega] at this)
    by_cases hd : o.dst = some t
    · have := hs 0 (o, r) rfl hd
      rw [Nat.add_zero] at this
      rw [this]
      cases S' i <;> simp [look_put, hd, h]
    · cases S i <;> cases S' i <;> simp [look_put, hd, h]
theorem fM_get (k : Nat) : ∀ (L : List (Oper × Res)) (i : Nat) (S S' : Nat → Bool) (M M' : List (Nat × Atom)), getM k M = getM k M' → (∀ j x, L[j]? = some x → k ∈ keysU x.2.upd → S (i + j) = S' (i + j)) → getM k (fM i L S M) = getM k (fM i L S' M')
  | [], _, _, _, _, _, h, _ => h
  | (o, r) :: L, i, S, S', M, M', h, hs => by
    simp only [fM]
    refine fM_get k L (i + 1) S S' _ _ ?_ (fun j x hx hd => by have := hs (j + 1) x (by simpa using hx) hd; rwa [show i + (j + 1) = i + 1 + j from by omega] at this)
    by_cases hd : k ∈ keysU r.upd
    · have := hs 0 (o, r) rfl hd
      rw [Nat.add_zero] at this
      rw [this]
      cases S' i
      · simpa using h
      · simp only [if_true, updM_get]
        exact gUpd_in r.upd k hd
    · have e : ∀ M, getM k (updM M r.upd) = getM k M := fun M => by rw [updM_get, gUpd_out r.upd k hd]
      cases S i <;> cases S' i <;> simp [e, h]

theorem fF_congr : ∀ (L : List (Oper × Res)) (i : Nat) (S S' : Nat → Bool) (fr : List (Nat × SV)), (∀ j, i ≤ j → S j = S' j) → fF i L S fr = fF i L S' fr
  | [], _, _, _, _, _ => rfl
  | (o, r) :: L, i, S, S', fr, h => by simp only [fF, h i (Nat.le_refl _)]; exact fF_congr L (i + 1) S S' _ fun j hj => h j (by omega)
theorem fM_congr : ∀ (L : List (Oper × Res)) (i : Nat) (S S' : Nat → Bool) (M : List (Nat × Atom)), (∀ j, i ≤ j → S j = S' j) → fM i L S M = fM i L S' M
  | [], _, _, _, _, _ => rfl
  | (o, r) :: L, i, S, S', M, h => by simp only [fM, h i (Nat.le_refl _)]; exact fM_congr L (i + 1) S S' _ fun j hj => h j (by omega)

theorem fF_succ : ∀ (L : List (Oper × Res)) (n j : Nat) (fr : List (Nat × SV)) {o : Oper} {r : Res}, L[j]? = some (o, r) → fF n L (fun q => decide (q < n + (j + 1))) fr = putF o.dst r.sv (fF n L (fun q => decide (q < n + j)) fr)
  | [], _, _, _, _, _, h => by simp at h
  | (o', r') :: L, n, 0, fr, o, r, h => by
    simp at h
    obtain ⟨rfl, rfl⟩ := h
    have e1 : decide (n < n + (0 + 1)) = true := by simp
    have e2 : decide (n < n + 0) = false := by simp
    simp only [fF, e1, e2, if_true, Bool.false_eq_true, if_false]
    rw [fF_none _ _ _ _ (fun j hj => by simp; omega), fF_none _ _ _ _ (fun j hj => by simp; omega)]
  | (o', r') :: L, n, j + 1, fr, o, r, h => by
    have h' : L[j]? = some (o, r) := by simpa using h
    have e1 : decide (n < n + (j + 1 + 1)) = true := by simp
    have e2 : decide (n < n + (j + 1)) = true := by simp
    simp only [fF, e1, e2, if_true]
    have := fF_succ L (n + 1) j (putF o'.dst r'.sv fr) h'
    rw [show n + (j + 1 + 1) = n + 1 + (j + 1) from by omega, show n + (j + 1) = n + 1 + j from by omega]
    exact this
theorem fM_succ : ∀ (L : List (Oper × Res)) (n j : Nat) (M : List (Nat × Atom)) {o : Oper} {r : Res}, L[j]? = some (o, r) → fM n L (fun q => decide (q < n + (j + 1))) M = updM (fM n L (fun q => decide (q < n + j)) M) r.upd
  | [], _, _, _, _, _, h => by simp at h
  | (o', r') :: L, n, 0, M, o, r, h => by
    simp at h
    obtain ⟨rfl, rfl⟩ := h
    have e1 : decide (n < n + (0 + 1)) = true := by simp
    have e2 : decide (n < n + 0) = false := by simp
    simp only [fM, e1, e2, if_true, Bool.false_eq_true, if_false]
    rw [fM_none _ _ _ _ (fun j hj => by simp; omega), fM_none _ _ _ _ (fun j hj => by simp; omega)]
  | (o', r') :: L, n, j + 1, M, o, r, h => by
    have h' : L[j]? = some (o, r) := by simpa using h
    have e1 : decide (n < n + (j + 1 + 1)) = true := by simp
    have e2 : decide (n < n + (j + 1)) = true := by simp
    simp only [fM, e1, e2, if_true]
    have := fM_succ L (n + 1) j (updM M r'.upd) h'
    rw [show n + (j + 1 + 1) = n + 1 + (j + 1) from by omega, show n + (j + 1) = n + 1 + j from by omega]
    exact this

section
variable {P : Program} {c : Ctx}

theorem trace_at {all : List Oper} : ∀ (L : List (Oper × Res)) (i key : Nat) (fr fr' : List (Nat × SV)) (M M' : List (Nat × Atom)), Trace P c all L key fr M fr' M' →
    (∀ j x, L[j]? = some x → StepOK P c all (key + 8 * j) x.1 (fF i L (fun q => decide (q < i + j)) fr) (fM i L (fun q => decide (q < i + j)) M) x.2) ∧ fr' = fF i L (fun _ => true) fr ∧ M' = fM i L (fun _ => true) M
  | [], i, key, fr, fr', M, M', h => ⟨by simp, h.1, h.2⟩
  | (o, r) :: L, i, key, fr, fr', M, M', h => by
    obtain ⟨h1, h2⟩ := h
    obtain ⟨h3, h4, h5⟩ := trace_at L (i + 1) (key + 8) _ fr' _ M' h2
    refine ⟨fun j x hx => ?_, by simpa [fF] using h4, by simpa [fM] using h5⟩
    cases j with
    | zero =>
      simp at hx
      subst hx
      rw [fF_none _ _ _ _ (fun j hj => by simp; omega), fM_none _ _ _ _ (fun j hj => by simp; omega)]
      simpa using h1
    | succ j =>
      have := h3 j x (by simpa using hx)
      have e1 : decide (i < i + (j + 1)) = true := by simp
      simp only [fF, fM, e1, if_true]
      have e2 : i + (j + 1) = i + 1 + j := by omega
      have e3 : key + 8 * (j + 1) = key + 8 + 8 * j := by omega
      rw [e2, e3]
      exact this

/-- Keys in use behind the operations that S names. -/
def fP (p0 : Nat → Prop) (base : Nat) (L : List (Oper × Res)) (S : Nat → Bool) (k : Nat) : Prop := p0 k ∨ ∃ i x, L[i]? = some x ∧ S i = true ∧ base + 8 * i ≤ k ∧ k < base + 8 * i + x.2.nk

/-! ### What 'ordOK' says -/
def anc (ops : List Oper) (i j : Nat) : Prop := i ∈ (ancs ops).getD j []

theorem ancs_closed (S : Nat → Bool) (all : List Oper) (hS : ∀ j o, all[j]? = some o → S j = true → ∀ q, q ∈ preds o → S q = true) :
    ∀ (ops : List Oper) (acc : List (List Nat)), (∀ j, ops[j]? = all[acc.length + j]?) → (∀ j i, j < acc.length → i ∈ acc.getD j [] → S j = true → S i = true) →
      ∀ j i, i ∈ (ops.foldl ancStep acc).getD j [] → S j = true → S i = true
  | [], acc, _, h, j, i, hi, hj => by
    simp only [List.foldl_nil] at hi
    by_cases hl : j < acc.length
    · exact h j i hl hi hj
    · simp [List.getD_eq_getElem?_getD, List.getElem?_eq_none (Nat.le_of_not_lt hl)] at hi
  | o :: ops, acc, hall, h, j, i, hi, hj => by
    refine ancs_closed S all hS ops (ancStep acc o) (fun j => ?_) (fun j i hl hi hj => ?_) j i (by simpa using hi) hj
    · have := hall (j + 1)
      simp only [ancStep, List.length_append, List.length_singleton]
      rw [show acc.length + 1 + j = acc.length + (j + 1) from by omega, ← this]
      simp
    · simp only [ancStep, List.length_append, List.length_singleton] at hl
      by_cases hl' : j < acc.length
      · simp only [ancStep, List.getD_eq_getElem?_getD, List.getElem?_append_left hl'] at hi
        exact h j i hl' (by rw [List.getD_eq_getElem?_getD]; exact hi) hj
      · have : j = acc.length := by omega
        subst this
        simp only [ancStep, List.getD_eq_getElem?_getD, List.getElem?_append_right (Nat.le_refl _), Nat.sub_self, List.getElem?_cons_zero, Option.getD_some] at hi
        have ho : all[acc.length]? = some o := by have := hall 0; simp at this; simpa using this.symm
        have hq := hS _ o ho hj
        have key : ∀ (ps s : List Nat), (∀ q, q ∈ ps → S q = true) → (∀ x, x ∈ s → S x = true) → ∀ x, x ∈ ps.foldl (fun s q => q :: (acc[q]?.getD [] ++ s)) s → S x = true := by
          intro ps
          induction ps with
          | nil => intro s _ hs x hx; exact hs x hx
          | cons q ps ih =>
            intro s hps hs x hx
            refine ih _ (fun q hq => hps q (by simp [hq])) (fun y hy => ?_) x hx
            simp only [List.mem_cons, List.mem_append] at hy
            rcases hy with rfl | hy | hy
            · exact hps _ (by simp)
            · by_cases hql : q < acc.length
              · exact h q y hql (by rw [List.getD_eq_getElem?_getD]; exact hy) (hps q (by simp))
              · simp [List.getElem?_eq_none (Nat.le_of_not_lt hql)] at hy
            · exact hs y hy
        exact key _ [] hq (by simp) i hi

theorem meets_false {a b : List Nat} (h : meets a b = false) : ∀ x, x ∈ a → x ∈ b → False := by
  intro x hx hb
  simp only [meets, List.any_eq_false] at h
  have := h x hx
  simp [hb] at this

structure Ord (L : List (Oper × Res)) : Prop where
  pred : ∀ i x, L[i]? = some x → ∀ q, q ∈ preds x.1 → q < i
  pair : ∀ i j x y, i < j → L[i]? = some x → L[j]? = some y → anc (L.map (·.1)) i j ∨ indep (L.map (·.1)) (x.1, fpOf x.2) (y.1, fpOf y.2) = true

theorem ord_of {L : List (Oper × Res)} (h : ordOK (L.map (·.1)) ((L.map (fun x => fpOf x.2)).reverse) = true) : Ord L := by
  simp only [ordOK, Bool.and_eq_true, List.reverse_reverse] at h
  obtain ⟨⟨⟨h1, h2⟩, _⟩, _⟩ := h
  have hz : (L.map (·.1)).zip (L.map (fun x => fpOf x.2)) = L.map (fun x => (x.1, fpOf x.2)) := by
    rw [List.zip_map', ]
  rw [hz] at h1
  refine ⟨fun i x hx q hq => ?_, fun i j x y hij hx hy => ?_⟩
  · rw [List.all_eq_true] at h2
    have := h2 (x.1, i) (by rw [List.mem_zipIdx_iff_getElem?]; simp [hx])
    simp only [List.all_eq_true, decide_eq_true_eq] at this
    exact this q hq
  · simp only [pairOK, List.all_eq_true] at h1
    have := h1 ((y.1, fpOf y.2), j) (by rw [List.mem_zipIdx_iff_getElem?]; simp [hy]) ((x.1, fpOf x.2), i) (by rw [List.mem_zipIdx_iff_getElem?]; simp [hx])
    simp only [Bool.or_eq_true, Bool.not_eq_true', decide_eq_false_iff_not] at this
    rcases this with (h | h) | h
    · exact absurd hij h
    · exact .inl (by simpa [anc] using h)
    · exact .inr h

theorem meets_true {a b : List Nat} {x : Nat} (ha : x ∈ a) (hb : x ∈ b) : meets a b = true := by
  simp only [meets, List.any_eq_true]
  exact ⟨x, ha, by simpa using hb⟩
theorem indep_w1 {ops : List Oper} {a b : Oper × Fp} {k : Nat} (h1 : k ∈ a.2.wr) (h2 : k ∈ b.2.rd ++ b.2.wr) : indep ops a b = false := by
  simp [indep, meets_true h1 h2]
theorem indep_w2 {ops : List Oper} {a b : Oper × Fp} {k : Nat} (h1 : k ∈ b.2.wr) (h2 : k ∈ a.2.rd) : indep ops a b = false := by
  simp [indep, meets_true h1 h2]
theorem indep_f1 {ops : List Oper} {a b : Oper × Fp} {k : Nat} (h1 : a.2.full = true) (h2 : k ∈ b.2.wr) : indep ops a b = false := by
  cases hb : b.2.wr with
  | nil => simp [hb] at h2
  | cons x r => simp [indep, h1, hb]
theorem indep_f2 {ops : List Oper} {a b : Oper × Fp} {k : Nat} (h1 : b.2.full = true) (h2 : k ∈ a.2.wr) : indep ops a b = false := by
  cases hb : a.2.wr with
  | nil => simp [hb] at h2
  | cons x r => simp [indep, h1, hb]
theorem indep_d1 {ops : List Oper} {a b : Oper × Fp} {t : Nat} (h1 : a.1.dst = some t) (h2 : t ∈ names ops b.1 ++ b.1.dst.toList) : indep ops a b = false := by
  simp [indep, meets_true (show t ∈ a.1.dst.toList by simp [h1]) h2]
theorem indep_d2 {ops : List Oper} {a b : Oper × Fp} {t : Nat} (h1 : b.1.dst = some t) (h2 : t ∈ names ops a.1) : indep ops a b = false := by
  simp [indep, meets_true (show t ∈ b.1.dst.toList by simp [h1]) h2]

/-! ### The region -/
def listedS (listed : Array Bool) (i : Nat) : Bool := listed.getD i false

/-- What holds when the operations of 'listed' have come. -/
def Inv (c : Ctx) (p0 : Nat → Prop) (E0 : Env) (base : Nat) (L : List (Oper × Res)) (fr0 : List (Nat × SV)) (M0 : List (Nat × Atom)) (mks : List Nat) (listed : Array Bool) (a : Act) (W : World) : Prop :=
  ∃ E, SatM c E (fP p0 base L (listedS listed)) (fun k => getM k (fM 0 L (listedS listed) M0)) W ∧
    (∀ t s, look t (fF 0 L (listedS listed) fr0) = some s → s.ok (fP p0 base L (listedS listed)) ∧ a.tmps[t]? = some (den E s)) ∧ (a.defers = mks.map (fun k => { target := .collected (E.blk k), args := #[] }) ∧ ∀ k, k ∈ mks → p0 k) ∧ c.Tm a ∧ Agree p0 E0 E

theorem names_mem {ops : List Oper} {o : Oper} : (∀ t, .tmp t ∈ o.op.operands.toList → t ∈ names ops o) ∧ (∀ j want t, o.guard = some (j, want) → (ops[j]?).bind (·.dst) = some t → t ∈ names ops o) := by
  refine ⟨fun t ht => ?_, fun j want t hg ht => ?_⟩
  · simp only [names, tmpsOf, List.mem_append, List.mem_filterMap]
    exact .inl ⟨.tmp t, ht, rfl⟩
  · simp only [names, List.mem_append, hg, ht]
    exact .inr (by simp)

theorem draw_step {all : List Oper} {mks : List Nat} {E0 : Env} {L : List (Oper × Res)} {base : Nat} {p0 : Nat → Prop} {fr0 fr' : List (Nat × SV)} {M0 M' : List (Nat × Atom)} (hL : L.map (·.1) = all) (hO : Ord L) (hT : Trace P c all L base fr0 M0 fr' M') (hp0 : ∀ k, p0 k → k < base)
    (hd : ∀ x, x ∈ L → ∀ d, x.1.dst = some d → c.free d) {listed : Array Bool} (hsz : listed.size = L.length) (hdown : ∀ j x, L[j]? = some x → listedS listed j = true → ∀ q, q ∈ preds x.1 → listedS listed q = true)
    {i : Nat} {o : Oper} {r : Res} (hi : L[i]? = some (o, r)) (hni : listedS listed i = false) (hpr : ∀ q, q ∈ preds o → listedS listed q = true) {a : Act} {W : World} (hI : Inv c p0 E0 base L fr0 M0 mks listed a W)
    {Q : Exit → Act → World → Prop} {K : Act → World → Prop} (hK : ∀ a W, Inv c p0 E0 base L fr0 M0 mks (listed.setIfInBounds i true) a W → K a W) : wpOpIn c.F 9 P all.toArray Q i K a W := by
  obtain ⟨hA, _, _⟩ := trace_at L 0 base fr0 fr' M0 M' hT
  obtain ⟨E, hM, hF, hdef, hsize, hE0⟩ := hI
  have hil : i < L.length := (List.getElem?_eq_some_iff.1 hi).1
  -- what has come behind this operation
  have hS' : ∀ j, listedS (listed.setIfInBounds i true) j = (listedS listed j || decide (j = i)) := by
    intro j
    simp only [listedS, Array.getD_eq_getD_getElem?, Array.getElem?_setIfInBounds]
    by_cases e : i = j
    · subst e
      simp [hsz, hil]
    · simp [e, Ne.symm e]
  -- whoever must come before has come
  have hanc : ∀ j, anc all j i → j ≠ i → listedS listed j = true := by
    intro j hj hne
    have := ancs_closed (fun q => listedS listed q || decide (q = i)) all (fun q oq hq hs q' hq' => ?_) all [] (by simp) (by simp) i j hj (by simp)
    · simp only [Bool.or_eq_true, decide_eq_true_eq] at this
      exact this.resolve_right hne
    · rw [← hL, List.getElem?_map] at hq
      cases hx : L[q]? with
      | none => simp [hx] at hq
      | some x =>
        simp only [hx, Option.map_some, Option.some.injEq] at hq
        subst hq
        simp only [Bool.or_eq_true, decide_eq_true_eq] at hs ⊢
        rcases hs with hs | rfl
        · exact .inl (hdown q x hx hs q' hq')
        · rw [hi] at hx
          injection hx with hx
          subst hx
          exact .inl (hpr q' hq')
  have hancr : ∀ j, anc all i j → listedS listed j = false := by
    intro j hj
    cases hb : listedS listed j with
    | false => rfl
    | true =>
      have := ancs_closed (listedS listed) all (fun q oq hq hs q' hq' => ?_) all [] (by simp) (by simp) j i hj hb
      · rw [hni] at this; cases this
      · rw [← hL, List.getElem?_map] at hq
        cases hx : L[q]? with
        | none => simp [hx] at hq
        | some x =>
          simp only [hx, Option.map_some, Option.some.injEq] at hq
          subst hq
          exact hdown q x hx hs q' hq'
  -- an operation that meets this one in something
  have hmeet : ∀ j y, L[j]? = some y → j ≠ i → indep all (y.1, fpOf y.2) (o, fpOf r) = false → indep all (o, fpOf r) (y.1, fpOf y.2) = false → listedS listed j = decide (j < i) := by
    intro j y hy hne h1 h2
    rcases Nat.lt_or_gt_of_ne hne with hlt | hgt
    · rcases hO.pair j i y (o, r) hlt hy hi with h | h
      · rw [hL] at h
        simp [hanc j h hne, hlt]
      · rw [hL, h1] at h; cases h
    · rcases hO.pair i j (o, r) y hgt hi hy with h | h
      · rw [hL] at h
        simp [hancr j h, Nat.not_lt.2 (Nat.le_of_lt hgt)]
      · rw [hL, h2] at h; cases h
  have hself : ∀ {j : Nat} {y : Oper × Res}, L[j]? = some y → j = i → y = (o, r) := fun {j y} hy e => by subst e; rw [hi] at hy; injection hy with hy; exact hy.symm
  have lookS : ∀ t, t ∈ names all o → look t (fF 0 L (listedS listed) fr0) = look t (fF 0 L (fun q => decide (q < 0 + i)) fr0) := by
    intro t ht
    refine fF_look t L 0 _ _ _ _ rfl fun j y hy hdt => ?_
    simp only [Nat.zero_add]
    by_cases e : j = i
    · subst e; simp [hni]
    · exact hmeet j y hy e (indep_d1 hdt (by simp [ht])) (indep_d2 hdt ht)
  have getS : ∀ k, (r.full = true ∨ k ∈ r.rd ∨ k ∈ keysU r.upd) → getM k (fM 0 L (listedS listed) M0) = getM k (fM 0 L (fun q => decide (q < 0 + i)) M0) := by
    intro k hk
    refine fM_get k L 0 _ _ _ _ rfl fun j y hy hdk => ?_
    simp only [Nat.zero_add]
    by_cases e : j = i
    · subst e; simp [hni]
    · rcases hk with hk | hk | hk
      · exact hmeet j y hy e (indep_f2 (k := k) hk hdk) (indep_f1 (k := k) hk hdk)
      · exact hmeet j y hy e (indep_w1 (k := k) hdk (by simp [fpOf, hk])) (indep_w2 (k := k) hdk hk)
      · exact hmeet j y hy e (indep_w1 (k := k) hdk (by simp [fpOf, hk])) (indep_w1 (k := k) hk (by simp only [fpOf, List.mem_append]; exact .inr hdk))
  obtain ⟨hfresh, hu, hstep⟩ := hA i (o, r) hi
  have hkk : ∀ q, q < 8 → ¬ fP p0 base L (listedS listed) (base + 8 * i + q) := by
    intro q hq hp
    rcases hp with hp | ⟨j, y, hy, hj, h1, h2⟩
    · have := hp0 _ hp; omega
    · have hne : j ≠ i := fun e => by subst e; rw [hni] at hj; cases hj
      have hnk : y.2.nk ≤ 8 := by
        rcases (hA j y hy).2.2 with h | h
        · exact h.1.1
        · rw [h.1]; simp [skipR]
      rcases Nat.lt_or_gt_of_ne hne with h | h <;> omega
  -- what holds behind it
  have fin : ∀ E' p' W', Agree (fP p0 base L (listedS listed)) E E' → (∀ k, p' k → fP p0 base L (listedS listed) k ∨ base + 8 * i ≤ k ∧ k < base + 8 * i + r.nk) → (∀ k, fP p0 base L (listedS listed) k → p' k) →
      SatM c E' p' (gUpd (fun k => getM k (fM 0 L (listedS listed) M0)) r.upd) W' → r.sv.ok p' → Inv c p0 E0 base L fr0 M0 mks (listed.setIfInBounds i true) (a.put o.dst (den E' r.sv)) W' := by
    intro E' p' W' ha hp1 hp2 hM' hok
    have hpp : ∀ k, p' k → fP p0 base L (listedS (listed.setIfInBounds i true)) k := by
      intro k hk
      rcases hp1 k hk with (h | ⟨j, y, hy, hj, h1⟩) | h
      · exact .inl h
      · exact .inr ⟨j, y, hy, by simp [hS', hj], h1⟩
      · exact .inr ⟨i, (o, r), hi, by simp [hS'], h⟩
    refine ⟨E', (hM'.monoP hpp).getter fun k A hA' => ?_, fun t s hs => ?_, ⟨by rw [put_defers, hdef.1]; exact List.map_congr_left fun k hk => by rw [(ha k (.inl (hdef.2 k hk))).1], hdef.2⟩, hsize.put (fun t ht => hd (o, r) (List.mem_of_getElem? hi) t ht) _, hE0.trans ha fun k hk => .inl hk⟩
    · rw [← hA']
      by_cases hk : k ∈ keysU r.upd
      · have e1 : getM k (fM 0 L (listedS (listed.setIfInBounds i true)) M0) = getM k (fM 0 L (fun q => decide (q < 0 + (i + 1))) M0) := by
          refine fM_get k L 0 _ _ _ _ rfl fun j y hy hdk => ?_
          rw [Nat.zero_add, hS']
          by_cases e : j = i
          · subst e; simp
          · rw [hmeet j y hy e (indep_w1 (k := k) hdk (by simp [fpOf, hk])) (indep_w1 (k := k) hk (by simp only [fpOf, List.mem_append]; exact .inr hdk))]
            have : (j < i + 1) ↔ j < i := by omega
            simp [e, this]
        have e2 : fM 0 L (fun q => decide (q < 0 + (i + 1))) M0 = updM (fM 0 L (fun q => decide (q < 0 + i)) M0) r.upd := fM_succ L 0 i M0 hi
        rw [e1, e2, updM_get]
        exact gUpd_in r.upd k hk
      · rw [gUpd_out r.upd k hk]
        refine (fM_get k L 0 _ _ _ _ rfl fun j y hy hdk => ?_).symm
        rw [Nat.zero_add, hS']
        by_cases e : j = i
        · obtain rfl := hself hy e
          exact absurd hdk hk
        · simp [e]
    · by_cases hdt : o.dst = some t
      · have e1 : look t (fF 0 L (listedS (listed.setIfInBounds i true)) fr0) = look t (fF 0 L (fun q => decide (q < 0 + (i + 1))) fr0) := by
          refine fF_look t L 0 _ _ _ _ rfl fun j y hy hdk => ?_
          rw [Nat.zero_add, hS']
          by_cases e : j = i
          · subst e; simp
          · rw [hmeet j y hy e (indep_d1 hdk (by simp [hdt])) (indep_d1 (t := t) hdt (by simp [hdk]))]
            have : (j < i + 1) ↔ j < i := by omega
            simp [e, this]
        have e2 : fF 0 L (fun q => decide (q < 0 + (i + 1))) fr0 = putF o.dst r.sv (fF 0 L (fun q => decide (q < 0 + i)) fr0) := fF_succ L 0 i fr0 hi
        rw [e1, e2, look_put, if_pos hdt] at hs
        injection hs with hs
        subst hs
        have hlt : t < a.tmps.size := by rw [hsize.size]; exact (hd (o, r) (List.mem_of_getElem? hi) t hdt).1
        exact ⟨ok_mono hpp _ hok, by simp [hdt, Act.put, hlt]⟩
      · have e1 : look t (fF 0 L (listedS (listed.setIfInBounds i true)) fr0) = look t (fF 0 L (listedS listed) fr0) := by
          refine fF_look t L 0 _ _ _ _ rfl fun j y hy hdk => ?_
          rw [Nat.zero_add, hS']
          by_cases e : j = i
          · obtain rfl := hself hy e
            exact absurd hdk hdt
          · simp [e]
        rw [e1] at hs
        obtain ⟨h1, h2⟩ := hF t s hs
        refine ⟨ok_mono (fun k hk => hpp k (hp2 k hk)) s h1, ?_⟩
        rw [den_agree ha s h1, ← h2]
        cases hdo : o.dst with
        | none => rfl
        | some u =>
          have : u ≠ t := fun e => hdt (by rw [hdo, e])
          simp only [Act.put]
          rw [Array.getElem?_setIfInBounds_ne this]
  have hi' : all.toArray[i]? = some o := by simp [← hL, hi]
  -- the frame, as this operation sees it
  have hFi : ∀ t, t ∈ names all o → ∀ s, look t (fF 0 L (fun q => decide (q < 0 + i)) fr0) = some s → s.ok (fP p0 base L (listedS listed)) ∧ a.tmps[t]? = some (den E s) := fun t ht s hs => hF t s (by rw [lookS t ht]; exact hs)
  have hw : (guardT all o (fF 0 L (fun q => decide (q < 0 + i)) fr0) → Region.wanted o (yielded all.toArray a.tmps) = true) ∧ (guardF all o (fF 0 L (fun q => decide (q < 0 + i)) fr0) → Region.wanted o (yielded all.toArray a.tmps) = false) := by
    refine ⟨fun hg => ?_, fun hg => ?_⟩
    · refine (wanted_of (all := all) (o := o) (a := a) (E := E) (fr := fF 0 L (listedS listed) fr0) (fun t s h => (hF t s h).2)).1 ?_
      rcases hg with h | ⟨j, want, t, h1, h2, h3⟩
      · exact .inl h
      · exact .inr ⟨j, want, t, h1, h2, by rw [lookS t (names_mem.2 j want t h1 h2)]; exact h3⟩
    · refine (wanted_of (all := all) (o := o) (a := a) (E := E) (fr := fF 0 L (listedS listed) fr0) (fun t s h => (hF t s h).2)).2 ?_
      obtain ⟨j, want, t, x, h1, h2, h3, h4⟩ := hg
      exact ⟨j, want, t, x, h1, h2, by rw [lookS t (names_mem.2 j want t h1 h2)]; exact h3, h4⟩
  unfold wpOpIn
  simp only [hi']
  rcases hstep with ⟨hop, hg⟩ | ⟨hr, hg⟩
  · rw [if_pos (hw.1 hg)]
    refine (hop.2 E (fP p0 base L (listedS listed)) a W (fun k => getM k (fM 0 L (listedS listed) M0)) hM (fun k hk _ => getS k hk) hkk (fun x hx s hs => ?_) _ _ fun E' W' ha hM' hok => hK _ _ (fin E' _ W' ha (fun k hk => hk) (fun k hk => .inl hk) hM' hok))
    cases x with
    | tmp t =>
      obtain ⟨h1, h2⟩ := hFi t (names_mem.1 t hx) s hs
      exact ⟨h1, by simp [Act.eval, Array.getD_eq_getD_getElem?, h2]⟩
    | const v => simp only [ev, Option.some.injEq] at hs; subst hs; exact ⟨trivial, rfl⟩
    | global g => simp only [ev, Option.some.injEq] at hs; subst hs; exact ⟨trivial, rfl⟩
    | func f => simp only [ev, Option.some.injEq] at hs; subst hs; exact ⟨trivial, rfl⟩
  · rw [if_neg (by rw [hw.2 hg]; simp)]
    simp only at hr
    subst hr
    have := fin E (fP p0 base L (listedS listed)) W (Agree.refl _ E) (fun k hk => .inl hk) (fun k hk => hk) (by simpa [skipR, gUpd] using hM) trivial
    exact ⟨fun _ _ => trivial, hK _ _ (by simpa [skipR, den] using this)⟩

end
end Go.VM
