/- RunOp answers as the reference, gives a number; addition undoes subtraction; sums and products may be turned about; of two numbers one is less, or they are alike: at every drawn operation and every two drawn numbers. No condition beyond that what is drawn from is bytes. -/
import Derived.Test.YtikdpjjigmhljaaF12
namespace Go.Proofs.Ytikdpjjigmhljaa.Pure
open Go.RowKit Go.Proofs.Ytikdpjjigmhljaa.F Go.Proofs.YtikdpjjigmhljaaW.PrintWords Go.Proofs.YtikdpjjigmhljaaW.PrintLast

theorem rSpecIn (a b c : Int) : spec_l6In.f a b c = some (decide (b ≤ a) && decide (a ≤ c)) := by
  unfold spec_l6In.f
  by_cases h : b ≤ a
  · rw [if_pos h]; simp [h]
  · rw [if_neg h]; simp [h]
theorem rImplNum (a : Int) : impl_isNum.f a = some (decide (0 ≤ a) && decide (a ≤ 65535)) := by
  unfold impl_isNum.f impl_in.f
  by_cases h : 0 ≤ a
  · rw [if_pos h]; simp [h]
  · rw [if_neg h]; simp [h]
/-- The operation, plainly. -/
def opOf (op a b : Int) : Int :=
  if (0 ≤ a ∧ a ≤ 65535) ∧ (0 ≤ b ∧ b ≤ 65535) then
    (if op = 1 then (a + b) % 65536 else if op = 2 then (a - b + 65536) % 65536 else if op = 3 then (a * b) % 65536 else if op = 4 then (if a < b then 1 else 0) else 0)
  else 0
theorem prod_bound {a b : Int} (ha : 0 ≤ a) (ha' : a ≤ 65535) (hb : 0 ≤ b) (hb' : b ≤ 65535) : 0 ≤ a * b ∧ a * b ≤ 65535 * 65535 :=
  ⟨Int.mul_nonneg ha hb, Int.mul_le_mul ha' hb' hb (by decide)⟩
theorem implOp (k : Nat) (op a b : Int) : impl_RunOp.f (k + 1) op a b = some (opOf op a b) := by
  unfold impl_RunOp.f opOf
  rw [rImplNum a, rImplNum b]
  by_cases ha : 0 ≤ a ∧ a ≤ 65535
  · by_cases hb : 0 ≤ b ∧ b ≤ 65535
    · obtain ⟨p1, p2⟩ := prod_bound ha.1 ha.2 hb.1 hb.2
      have e1 : Int.tmod (wrap64 (a + b)) 65536 = (a + b) % 65536 := by
        rw [show wrap64 (a + b) = a + b by unfold wrap64; omega, Int.tmod_eq_emod_of_nonneg (by omega)]
      have e2 : Int.tmod (wrap64 (wrap64 (a - b) + 65536)) 65536 = (a - b + 65536) % 65536 := by
        rw [show wrap64 (wrap64 (a - b) + 65536) = a - b + 65536 by unfold wrap64; omega, Int.tmod_eq_emod_of_nonneg (by omega)]
      have e3 : Int.tmod (wrap64 (a * b)) 65536 = (a * b) % 65536 := by
        generalize a * b = p at p1 p2
        rw [show wrap64 p = p by unfold wrap64; omega, Int.tmod_eq_emod_of_nonneg p1]
      simp only [ha.1, ha.2, hb.1, hb.2, decide_true, Bool.and_self, Option.bind_some, if_true, Bool.not_true, impl_RunOp.j0, Bool.false_eq_true, if_false, e1, e2, e3, and_self]
      repeat' split
      all_goals rfl
    · have h : (decide (0 ≤ b) && decide (b ≤ 65535)) = false := by
        simp
        omega
      rw [if_neg (by omega)]
      simp [ha.1, ha.2, h, impl_RunOp.j0]
  · have h : (decide (0 ≤ a) && decide (a ≤ 65535)) = false := by
      simp
      omega
    rw [if_neg (by omega)]
    simp [h, impl_RunOp.j0]
theorem specOp (k : Nat) (op a b : Int) : spec_RunOp.f (k + 1) op a b = some (opOf op a b) := by
  unfold spec_RunOp.f opOf
  rw [rSpecIn a, rSpecIn b]
  by_cases ha : 0 ≤ a ∧ a ≤ 65535
  · by_cases hb : 0 ≤ b ∧ b ≤ 65535
    · obtain ⟨p1, p2⟩ := prod_bound ha.1 ha.2 hb.1 hb.2
      have e1 : Int.tmod (wrap64 (a + b)) 65536 = (a + b) % 65536 := by
        rw [show wrap64 (a + b) = a + b by unfold wrap64; omega, Int.tmod_eq_emod_of_nonneg (by omega)]
      have e2 : Int.tmod (wrap64 (wrap64 (a + 65536) - b)) 65536 = (a - b + 65536) % 65536 := by
        rw [show wrap64 (wrap64 (a + 65536) - b) = a - b + 65536 by unfold wrap64; omega, Int.tmod_eq_emod_of_nonneg (by omega)]
      have e3 : Int.tmod (wrap64 (a * b)) 65536 = (a * b) % 65536 := by
        generalize a * b = p at p1 p2
        rw [show wrap64 p = p by unfold wrap64; omega, Int.tmod_eq_emod_of_nonneg p1]
      simp only [ha.1, ha.2, hb.1, hb.2, decide_true, Bool.and_self, Option.bind_some, if_true, Bool.not_true, spec_RunOp.j0, Bool.false_eq_true, if_false, e1, e2, e3, and_self]
      repeat' split
      all_goals rfl
    · have h : (decide (0 ≤ b) && decide (b ≤ 65535)) = false := by
        simp
        omega
      rw [if_neg (by omega)]
      simp [ha.1, ha.2, h, spec_RunOp.j0]
  · have h : (decide (0 ≤ a) && decide (a ≤ 65535)) = false := by
      simp
      omega
    rw [if_neg (by omega)]
    simp [h, spec_RunOp.j0]
theorem opOf_num (op a b : Int) : 0 ≤ opOf op a b ∧ opOf op a b ≤ 65535 := by
  unfold opOf
  by_cases h : (0 ≤ a ∧ a ≤ 65535) ∧ (0 ≤ b ∧ b ≤ 65535)
  · rw [if_pos h]
    generalize a * b = p
    repeat' split
    all_goals omega
  · rw [if_neg h]; omega
theorem xor_bound (a b : Int) (ha : 0 ≤ a) (ha' : a < 2 ^ 40) (hb : 0 ≤ b) (hb' : b < 2 ^ 40) : 0 ≤ Go.bits .xor .i64 a b ∧ Go.bits .xor .i64 a b < 2 ^ 40 := by
  obtain ⟨x, rfl⟩ := Int.eq_ofNat_of_zero_le ha
  obtain ⟨y, rfl⟩ := Int.eq_ofNat_of_zero_le hb
  have hx : x < 2 ^ 40 := by omega
  have hy : y < 2 ^ 40 := by omega
  have hz := Nat.xor_lt_two_pow hx hy
  have ex : x % 2 ^ 64 = x := Nat.mod_eq_of_lt (by omega)
  have ey : y % 2 ^ 64 = y := Nat.mod_eq_of_lt (by omega)
  have e : Go.bits .xor .i64 (x : Int) (y : Int) = ((x ^^^ y : Nat) : Int) := by
    show IntKind.i64.wrap (((BitVec.ofInt 64 (x : Int)) ^^^ (BitVec.ofInt 64 (y : Int))).toNat : Int) = _
    rw [BitVec.ofInt_natCast, BitVec.ofInt_natCast, BitVec.toNat_xor, BitVec.toNat_ofNat, BitVec.toNat_ofNat, ex, ey, IntKind.wrap_i64]
    omega
  rw [e]
  omega
/-- What is picked is a number below n, and the place goes on by one. -/
theorem pick_ok (k : Nat) (l : List Int) (hl : ∀ x ∈ l, 0 ≤ x ∧ x < 256) (hlen : l.length ≤ 2000) (p n : Int) (hp : 0 ≤ p) (hp' : p < 1000000) (hn : 1 ≤ n) (hn' : n < 1000000) :
    ∃ v, spec_l6Rd_pick.f (k + 1) l p n = some (v, p + 1) ∧ 0 ≤ v ∧ v < n := by
  have e1 : wrap64 (p + 1) = p + 1 := by unfold wrap64; omega
  have e2 : wrap64 (p + 1 - 1) = p := by unfold wrap64; omega
  have hrd : ∀ i : Int, 0 ≤ rd l i ∧ rd l i < 256 := by
    intro i
    unfold rd
    by_cases h : i.toNat < l.length
    · rw [List.getD_eq_getElem?_getD, List.getElem?_eq_getElem h]
      exact hl _ (List.getElem_mem h)
    · rw [List.getD_eq_getElem?_getD, List.getElem?_eq_none (by omega)]
      simp
  have hmod : ∀ x : Int, 0 ≤ x → 0 ≤ Int.tmod x n ∧ Int.tmod x n < n := by
    intro x hx
    rw [Int.tmod_eq_emod_of_nonneg hx]
    exact ⟨Int.emod_nonneg _ (by omega), Int.emod_lt_of_pos _ (by omega)⟩
  unfold spec_l6Rd_pick.f
  rw [if_neg (by omega), e1]
  by_cases h0 : l.length = 0
  · have : l = [] := List.eq_nil_of_length_eq_zero h0
    subst this
    exact ⟨0, by simp [spec_l6Rd_pick.j0], by omega, by omega⟩
  · have hb : ((l.length : Int) == 0) = false := by simp; exact fun h => h0 (by rw [h]; rfl)
    rw [hb]
    simp only [spec_l6Rd_pick.j0]
    rw [if_neg (by decide), e2]
    by_cases hlt : p < (l.length : Int)
    · rw [if_pos hlt, if_pos hp, if_neg (by omega)]
      have hr := hrd p
      rw [show wrap64 (rd l p) = rd l p by unfold wrap64; omega]
      exact ⟨_, rfl, hmod _ hr.1⟩
    · have hL : 0 < (l.length : Int) := by omega
      have m1 := Int.tmod_eq_emod_of_nonneg (b := (l.length : Int)) hp
      have a1 := Int.emod_nonneg p (show (l.length : Int) ≠ 0 by omega)
      have a2 := Int.emod_lt_of_pos p hL
      have e3 : wrap64 (wrap64 (p * 7) + 3) = p * 7 + 3 := by unfold wrap64; omega
      have m2 := Int.tmod_eq_emod_of_nonneg (a := p * 7 + 3) (b := (l.length : Int)) (by omega)
      have b1 := Int.emod_nonneg (p * 7 + 3) (show (l.length : Int) ≠ 0 by omega)
      have b2 := Int.emod_lt_of_pos (p * 7 + 3) hL
      have m3 : Int.tdiv p (l.length : Int) = p / (l.length : Int) := Int.tdiv_eq_ediv_of_nonneg hp
      have d1 : 0 ≤ p / (l.length : Int) := Int.ediv_nonneg hp (by omega)
      have d2 : p / (l.length : Int) ≤ p := Int.ediv_le_self _ hp
      rw [if_neg hlt, if_neg (by omega), m1, if_pos a1, if_pos a2, e3, m2, if_pos b1, if_pos b2, if_neg (by omega), m3]
      obtain ⟨r1, r1'⟩ := hrd (p % (l.length : Int))
      obtain ⟨r2, r2'⟩ := hrd ((p * 7 + 3) % (l.length : Int))
      generalize rd l (p % (l.length : Int)) = u at *
      generalize rd l ((p * 7 + 3) % (l.length : Int)) = v at *
      generalize p / (l.length : Int) = q at *
      have ex : wrap64 (wrap64 (wrap64 (wrap64 (wrap64 u * 131) + wrap64 (wrap64 v * 1117)) + wrap64 (p * 29)) + wrap64 (wrap64 q * 53)) = u * 131 + v * 1117 + p * 29 + q * 53 := by
        unfold wrap64
        omega
      rw [ex]
      generalize hx : u * 131 + v * 1117 + p * 29 + q * 53 = x
      have x0 : 0 ≤ x := by omega
      have x1 : x < 1000000000 := by omega
      have ed : wrap64 (Int.tdiv x 64) = x / 64 := by
        rw [Int.tdiv_eq_ediv_of_nonneg x0]
        unfold wrap64
        omega
      rw [ed]
      have hz := xor_bound x (x / 64) x0 (by omega) (by omega) (by omega)
      exact ⟨_, rfl, hmod _ hz.1⟩
theorem open_ok (l : List Int) (hl : ∀ x ∈ l, 0 ≤ x ∧ x < 256) : ∃ l', spec_l6Open.f l = some (l', 0) ∧ (∀ x ∈ l', 0 ≤ x ∧ x < 256) ∧ l'.length ≤ 2000 := by
  unfold spec_l6Open.f
  by_cases h : (l.length : Int) > 2000
  · rw [if_pos h, if_pos (by omega)]
    exact ⟨_, rfl, fun x hx => hl x (List.mem_of_mem_take hx), by simp; omega⟩
  · rw [if_neg h]
    exact ⟨_, rfl, hl, by omega⟩
theorem draw_ok (k : Nat) (l : List Int) (hl : ∀ x ∈ l, 0 ≤ x ∧ x < 256) : ∃ op a b, spec_DrawRunOp.f (k + 1) l = some (op, a, b) := by
  obtain ⟨l', h0, h1, h2⟩ := open_ok l hl
  obtain ⟨v1, p1, _, _⟩ := pick_ok k l' h1 h2 0 7 (by omega) (by omega) (by omega) (by omega)
  obtain ⟨v2, p2, c2, d2⟩ := pick_ok k l' h1 h2 1 7 (by omega) (by omega) (by omega) (by omega)
  obtain ⟨v3, p3, c3, d3⟩ := pick_ok k l' h1 h2 2 7 (by omega) (by omega) (by omega) (by omega)
  unfold spec_DrawRunOp.f
  rw [h0]
  simp only [Option.bind_some]
  rw [p1]
  simp only [Option.bind_some, Int.zero_add]
  rw [p2]
  simp only [Option.bind_some]
  rw [if_pos c2, if_pos (show v2 < (([0, 1, 2, 300, 65535, 65536, (-1)] : List Int).length : Int) by simpa using d2)]
  rw [show (1 : Int) + 1 = 2 by rfl, p3]
  simp only [Option.bind_some]
  rw [if_pos c3, if_pos (show v3 < (([0, 1, 2, 300, 65535, 65536, (-1)] : List Int).length : Int) by simpa using d3)]
  exact ⟨_, _, _, rfl⟩
theorem FnRunOp : laws_FnRunOp.Pure := by
  intro l _ _ hw
  have hl : ∀ x ∈ l, 0 ≤ x ∧ x < 256 := by
    intro x hx
    have := hw x hx
    simp only [Lit.wf, IntKind.min, IntKind.max, IntKind.signed, IntKind.bits] at this
    simp at this
    omega
  refine ⟨3, ?_⟩
  unfold laws_FnRunOp.f
  by_cases hbig : (l.length : Int) > 1048576
  · rw [if_pos hbig]
  · rw [if_neg hbig]
    obtain ⟨op, a, b, hd⟩ := draw_ok 2 l hl
    rw [hd]
    simp only [Option.bind_some]
    rw [specOp 2, implOp 2]
    simp only [Option.bind_some, if_true]
    obtain ⟨n0, n1⟩ := opOf_num op a b
    rw [if_neg (by omega)]
    rw [show (decide (opOf op a b ≥ 65536)) = false from by simp; omega]
    simp only [laws_FnRunOp.j0]
    rw [if_neg (by decide)]
    have hout : ¬ ((0 ≤ a ∧ a ≤ 65535) ∧ (0 ≤ b ∧ b ≤ 65535)) → opOf op a b = 0 := fun h => by unfold opOf; rw [if_neg h]
    by_cases a0 : a < 0
    · rw [if_pos a0]
      simp [laws_FnRunOp.j1, hout (by omega)]
    · by_cases b0 : b < 0
      · rw [if_neg a0, if_pos b0]
        simp [laws_FnRunOp.j1, hout (by omega)]
      · by_cases a1 : a ≥ 65536
        · rw [if_neg a0, if_neg b0, if_pos a1]
          simp [laws_FnRunOp.j1, hout (by omega)]
        · rw [if_neg a0, if_neg b0, if_neg a1]
          by_cases b1 : b ≥ 65536
          · simp [laws_FnRunOp.j1, hout (by omega), b1]
          · rw [show (decide (b ≥ 65536)) = false from by simp; omega]
            simp only [laws_FnRunOp.j1]
            rw [if_neg (by decide)]
            have ea : ∀ x y : Int, (0 ≤ x ∧ x ≤ 65535) → (0 ≤ y ∧ y ≤ 65535) → opOf 1 x y = (x + y) % 65536 := fun x y h1 h2 => by unfold opOf; rw [if_pos ⟨h1, h2⟩]; simp
            have es : ∀ x y : Int, (0 ≤ x ∧ x ≤ 65535) → (0 ≤ y ∧ y ≤ 65535) → opOf 2 x y = (x - y + 65536) % 65536 := fun x y h1 h2 => by unfold opOf; rw [if_pos ⟨h1, h2⟩]; simp
            have em : opOf 3 a b = opOf 3 b a := by
              unfold opOf
              rw [if_pos (⟨by omega, by omega⟩ : (0 ≤ a ∧ a ≤ 65535) ∧ (0 ≤ b ∧ b ≤ 65535)), if_pos (⟨by omega, by omega⟩ : (0 ≤ b ∧ b ≤ 65535) ∧ (0 ≤ a ∧ a ≤ 65535)), Int.mul_comm a b]
              simp
            have el : ∀ x y : Int, (0 ≤ x ∧ x ≤ 65535) → (0 ≤ y ∧ y ≤ 65535) → opOf 4 x y = if x < y then 1 else 0 := fun x y h1 h2 => by unfold opOf; rw [if_pos ⟨h1, h2⟩]; simp
            have hs' : opOf 2 (opOf 1 b a) b = a := by
              rw [es _ _ (opOf_num _ _ _) (by omega), ea _ _ (by omega) (by omega)]
              omega
            have hc : opOf 1 a b = opOf 1 b a := by
              rw [ea _ _ (by omega) (by omega), ea _ _ (by omega) (by omega), Int.add_comm]
            have hl1 : wrap64 (opOf 4 a b + opOf 4 b a) = (if a < b then 1 else 0) + (if b < a then 1 else 0) := by
              rw [el _ _ (by omega) (by omega), el _ _ (by omega) (by omega)]
              unfold wrap64
              split <;> split <;> omega
            simp only [implOp, Option.bind_some, hc, hs', em, if_true, hl1]
            rw [if_pos (by split <;> split <;> omega)]
            congr 1
            by_cases e : a = b
            · subst e
              simp
            · have e' : (a == b) = false := by simpa using e
              rw [e']
              by_cases h : a < b
              · simp [h, show ¬ b < a by omega]
              · simp [h, show b < a by omega]

end Go.Proofs.Ytikdpjjigmhljaa.Pure
