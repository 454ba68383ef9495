/-
  The plain mathematics of the sum, more: four neighbours at most that are others are seen; noughts ahead change the register, noughts behind do where it is not 0. No condition; nothing of the program.
-/
import Derived.Test.YtmjoneiagfegdaaCrcM
namespace Go.Am

theorem mstep_even (y : Nat) : mstep (2 * y) = y := by
  unfold mstep; rw [if_neg (by omega)]; omega
theorem m8_shift (d : Nat) : m8 (256 * d) = d := by
  have e : 256 * d = 2 * (2 * (2 * (2 * (2 * (2 * (2 * (2 * d))))))) := by omega
  rw [e]; unfold m8 m4; simp only [mstep_even]
theorem add_eq_xor (c p : Nat) (hc : c < 256) : c + 256 * p = c ^^^ (256 * p) := by
  have h1 : c ^^^ (256 * p) = 256 * p ^^^ c := Nat.xor_comm _ _
  rw [h1, Nat.add_comm]
  have h2 := Nat.two_pow_add_eq_or_of_lt (i := 8) (b := c) (by omega) p
  rw [show (2 ^ 8 : Nat) = 256 by decide] at h2
  rw [h2]
  apply Nat.eq_of_testBit_eq
  intro i
  rw [Nat.testBit_or, Nat.testBit_xor]
  by_cases hi : i < 8
  · have : (256 * p).testBit i = false := by
      rw [show 256 * p = 2 ^ 8 * p by omega, Nat.testBit_two_pow_mul]; simp; omega
    rw [this]; simp
  · have : c.testBit i = false := Nat.testBit_lt_two_pow (Nat.lt_of_lt_of_le hc (by rw [show 256 = 2 ^ 8 by decide]; exact Nat.pow_le_pow_right (by decide) (by omega)))
    rw [this]; simp
def pack : List UInt8 → Nat
  | [] => 0
  | c :: l => c.toNat + 256 * pack l
def m8n : Nat → Nat → Nat
  | 0, r => r
  | k + 1, r => m8n k (m8 r)
theorem crcReg_pack : ∀ (l : List UInt8) (a : Nat), crcReg a l = m8n l.length (a ^^^ pack l)
  | [], a => by simp [crcReg, pack, m8n]
  | c :: l, a => by
    have h := crcReg_pack l (m8 (a ^^^ c.toNat))
    show crcReg (m8 (a ^^^ c.toNat)) l = m8n l.length (m8 (a ^^^ pack (c :: l)))
    rw [h]
    congr 1
    show m8 (a ^^^ c.toNat) ^^^ pack l = m8 (a ^^^ (c.toNat + 256 * pack l))
    rw [add_eq_xor _ _ c.toNat_lt, ← Nat.xor_assoc, m8_xor (a ^^^ c.toNat), m8_shift]
theorem pack_lt : ∀ (l : List UInt8), pack l < 256 ^ l.length
  | [] => by simp [pack]
  | c :: l => by
    have h := pack_lt l
    have h2 := c.toNat_lt
    show c.toNat + 256 * pack l < 256 ^ (l.length + 1)
    rw [Nat.pow_succ]; omega
theorem pack_inj : ∀ (l m : List UInt8), l.length = m.length → pack l = pack m → l = m
  | [], [], _, _ => rfl
  | c :: l, d :: m, hl, h => by
    have h2 := c.toNat_lt
    have h3 := d.toNat_lt
    have h4 : c.toNat + 256 * pack l = d.toNat + 256 * pack m := h
    have e1 : c.toNat = d.toNat := by omega
    have e2 : pack l = pack m := by omega
    rw [UInt8.toNat_inj.1 e1, pack_inj l m (by simpa using hl) e2]
theorem m8n_inj : ∀ (k : Nat) {a b : Nat}, a < 4294967296 → b < 4294967296 → m8n k a = m8n k b → a = b
  | 0, _, _, _, _, h => h
  | k + 1, _, _, ha, hb, h => m8_inj ha hb (m8n_inj k (m8_lt ha) (m8_lt hb) h)
theorem burst4 {l m : List UInt8} (hl : l.length = m.length) (h4 : l.length ≤ 4) {a : Nat} (ha : a < 4294967296) (h : crcReg a l = crcReg a m) : l = m := by
  rw [crcReg_pack, crcReg_pack, ← hl] at h
  have hp : ∀ x : List UInt8, x.length ≤ 4 → pack x < 4294967296 := by
    intro x hx
    have h1 := pack_lt x
    have h2 : 256 ^ x.length ≤ 256 ^ 4 := Nat.pow_le_pow_right (by decide) hx
    have h3 : (256 : Nat) ^ 4 = 4294967296 := by decide
    omega
  have := m8n_inj _ (xor_lt32 ha (hp l h4)) (xor_lt32 ha (hp m (by omega))) h
  rw [Nat.xor_comm a, Nat.xor_comm a] at this
  exact pack_inj l m hl (xor_cancel this)
theorem crc_burst {p x y s : List UInt8} (hl : x.length = y.length) (h4 : x.length ≤ 4) (h : crc (p ++ x ++ s) = crc (p ++ y ++ s)) : x = y := by
  have h1 := crc_eq h
  rw [crcReg_append, crcReg_append, crcReg_append, crcReg_append] at h1
  have hp := crcReg_lt p (r := 4294967295) (by decide)
  exact burst4 hl h4 hp (crcReg_inj s (crcReg_lt x hp) (crcReg_lt y hp) h1)

theorem crcReg_zeros (a k : Nat) : crcReg a (List.replicate k 0) = m8n k a := by
  have hz : ∀ k, pack (List.replicate k 0) = 0 := by
    intro k; induction k with
    | zero => rfl
    | succ k ih => show 0 + 256 * pack (List.replicate k 0) = 0; rw [ih]
  rw [crcReg_pack, hz, Nat.xor_zero, List.length_replicate]

def away : Nat → Nat → Bool
  | 0, _ => true
  | n + 1, r => m8 r != 4294967295 && away n (m8 r)
theorem away_spec : ∀ (n r : Nat), away n r = true → ∀ k, k < n → m8n (k + 1) r ≠ 4294967295
  | 0, _, _, k, hk => absurd hk (by omega)
  | n + 1, r, h, k, hk => by
    simp only [away, Bool.and_eq_true, bne_iff_ne] at h
    cases k with
    | zero => exact h.1
    | succ k => exact away_spec n (m8 r) h.2 k (by omega)
theorem away200 : away 200 4294967295 = true := by decide +kernel
theorem crc_ahead {k : Nat} (h1 : 1 ≤ k) (h2 : k ≤ 200) (b : List UInt8) : crc (List.replicate k 0 ++ b) ≠ crc b := by
  intro h
  have h3 := crc_eq h
  rw [crcReg_append, crcReg_zeros] at h3
  have hlt : ∀ n r, r < 4294967296 → m8n n r < 4294967296 := by
    intro n; induction n with
    | zero => intro r h; exact h
    | succ n ih => intro r h; exact ih _ (m8_lt h)
  have h4 := crcReg_inj b (hlt k _ (by decide)) (by decide) h3
  have h5 := away_spec 200 _ away200 (k - 1) (by omega)
  rw [show k - 1 + 1 = k by omega] at h5
  exact h5 h4

def act (q : Nat) : Nat → Nat → Nat
  | 0, _ => 0
  | n + 1, x => (if q.testBit n then x else 0) ^^^ act q n (mstep x)
theorem act_xor (q : Nat) : ∀ (n x y : Nat), act q n (x ^^^ y) = act q n x ^^^ act q n y
  | 0, _, _ => by simp [act]
  | n + 1, x, y => by
    simp only [act, mstep_xor, act_xor q n]
    split
    · rw [Nat.xor_assoc, Nat.xor_assoc]; congr 1; rw [← Nat.xor_assoc, ← Nat.xor_assoc, Nat.xor_comm y]
    · simp
theorem act_step (q : Nat) : ∀ (n x : Nat), act q n (mstep x) = mstep (act q n x)
  | 0, _ => by simp [act, mstep_zero]
  | n + 1, x => by
    simp only [act, act_step q n, mstep_xor]
    split
    · rfl
    · rw [mstep_zero]
theorem act_zero (q : Nat) : ∀ n, act q n 0 = 0
  | 0 => rfl
  | n + 1 => by simp only [act, mstep_zero, act_zero q n]; split <;> rfl
def msn : Nat → Nat → Nat
  | 0, r => r
  | k + 1, r => msn k (mstep r)
theorem msn_step : ∀ k r, msn k (mstep r) = mstep (msn k r)
  | 0, _ => rfl
  | k + 1, r => msn_step k (mstep r)
theorem msn_xor : ∀ k a b, msn k (a ^^^ b) = msn k a ^^^ msn k b
  | 0, _, _ => rfl
  | k + 1, a, b => by show msn k (mstep (a ^^^ b)) = _; rw [mstep_xor, msn_xor k]; rfl
theorem msn_add (j k r : Nat) : msn (j + k) r = msn k (msn j r) := by
  induction j generalizing r with
  | zero => simp [msn]
  | succ j ih => rw [show j + 1 + k = (j + k) + 1 by omega]; exact ih (mstep r)
theorem m8n_msn : ∀ k r, m8n k r = msn (8 * k) r
  | 0, _ => rfl
  | k + 1, r => by
    show m8n k (m8 r) = _
    rw [m8n_msn k, show 8 * (k + 1) = 8 + 8 * k by omega, msn_add]; rfl
theorem act_all {q k : Nat} (h : act q 32 (msn k 2147483648 ^^^ 2147483648) = 2147483648) {r : Nat} (hr : r < 4294967296) : act q 32 (msn k r ^^^ r) = r := by
  have hb : ∀ j, act q 32 (msn k (msn j 2147483648) ^^^ msn j 2147483648) = msn j 2147483648 := by
    intro j
    induction j with
    | zero => exact h
    | succ j ih =>
      have e : msn (j + 1) 2147483648 = mstep (msn j 2147483648) := msn_step j 2147483648
      rw [e, msn_step, ← mstep_xor, act_step, ih]
  have hbit : ∀ i, i < 32 → 2 ^ i = msn (31 - i) 2147483648 := by decide
  have hall : ∀ (n r : Nat), n ≤ 32 → r < 2 ^ n → act q 32 (msn k r ^^^ r) = r := by
    intro n
    induction n with
    | zero =>
      intro r _ hr
      have : r = 0 := by simpa using hr
      subst this
      have hz : ∀ k, msn k 0 = 0 := by intro k; induction k with
        | zero => rfl
        | succ k ih => show msn k (mstep 0) = 0; rw [mstep_zero]; exact ih
      rw [hz]; exact act_zero q 32
    | succ n ih =>
      intro r hn hr
      by_cases hlt : r < 2 ^ n
      · exact ih r (by omega) hlt
      · have e : r = (r - 2 ^ n) ^^^ 2 ^ n := by
          have h2 : r - 2 ^ n < 2 ^ n := by rw [Nat.pow_succ] at hr; omega
          have h3 := Nat.two_pow_add_eq_or_of_lt (i := n) (b := r - 2 ^ n) h2 1
          have h4 : 2 ^ n ||| (r - 2 ^ n) = (r - 2 ^ n) ^^^ 2 ^ n := by
            apply Nat.eq_of_testBit_eq
            intro i
            rw [Nat.testBit_or, Nat.testBit_xor, Nat.testBit_two_pow]
            by_cases hi : n = i
            · subst hi; rw [Nat.testBit_lt_two_pow h2]; simp
            · simp [hi]
          rw [Nat.mul_one] at h3
          rw [← h4, ← h3]; omega
        have h5 := ih (r - 2 ^ n) (by omega) (by rw [Nat.pow_succ] at hr; omega)
        have h6 := hb (31 - n)
        rw [← hbit n (by omega)] at h6
        have e2 : msn k r ^^^ r = (msn k (r - 2 ^ n) ^^^ (r - 2 ^ n)) ^^^ (msn k (2 ^ n) ^^^ 2 ^ n) := by
          conv => lhs; rw [e, msn_xor]
          rw [Nat.xor_assoc, Nat.xor_assoc]; congr 1
          rw [← Nat.xor_assoc, ← Nat.xor_assoc, Nat.xor_comm (msn k (2 ^ n))]
        rw [e2, act_xor, h5, h6]; exact e.symm
  exact hall 32 r (by omega) hr
def turnsBack : List Nat := [2015016157, 2415334548, 1420430437, 3114504052, 1478963486, 2957132940, 3999582906, 2788832065, 1405196133, 2067293746, 1087377609, 2293507815, 3373772670, 1231788297, 528500160, 5670263, 4216934265, 1924333259, 2830664392, 2319557097, 134007930, 1344725244, 3108988394, 3420647226, 3415291821, 2852958087, 3882853378, 1842433791, 2059414360, 1192147848, 2837840625, 2959043396, 441511080, 3079072687, 1717001139, 558497056, 3993166612, 2579523827, 336052741, 3253091322, 1553016463, 1707927619, 3307854601, 1669980737, 2361978292, 3875757180, 3963497616, 152423603, 1295846208, 661666946, 645295338, 297339659, 586509643, 460926965, 2121309507, 2200671740, 2440547318, 867138630, 3342978065, 3762796524, 1596245764, 1052611101, 3482695096, 3869643599, 3523523780, 1996310832, 3987706460, 1589340266, 2037150763, 3208342845, 2685526227, 2888033703, 1315612803, 704428040, 428942135, 937863267, 2705551326, 370429567, 4148430558, 2109306773, 2754854918, 2999273083, 3781770965, 2623321525, 2770059571, 516342839, 1422344788, 2862264123, 2986501168, 2282513497, 3123773567, 2885429044, 2176536150, 3939365277, 2339055129, 4216087313, 3965148765, 3649256579, 927796698, 1652116632, 1917196953, 1813818423, 2364687143, 1099607068, 3951166663, 455461900, 1771119376, 2255309264, 3998204030, 3806310627, 2337792246, 3179965717, 3902354827, 617719396, 3505374789, 578632868, 2519981266, 1903567846, 779760362, 1342608353, 44722926, 992331998, 35226427, 622978886, 171957083, 193889873, 2419452070, 2790440463, 3228223565, 1135328482, 2155311301, 358937973, 1899856150, 359623461, 934782836, 841823159, 530545139, 3897213491, 2514489616, 3386583107, 1068879163, 3846979762, 3852442559, 3619053714, 4125576051, 1992310837, 2259040887, 3543527150, 224208822, 883828790, 2763251498, 2334772301, 2492388075, 3145491575, 3821968740, 1217670750, 2832115164, 2773759598, 3899358222, 1995974439, 3863224506, 997207603, 1088675833, 1527102249, 4108316666, 4274919878, 1112831564, 3471243101, 2177089726, 250127954, 675471747, 2212687342, 2801087540, 1248606042, 1592861844, 2960133744, 468641612, 665717126, 1651251410, 1546150086, 2042198837, 2642686037, 3783525342, 1151321170, 613220303, 2214431228, 2997130168, 2842597046, 4008751292, 2547557580, 3233732568, 3428678709, 312474995, 3350533679, 3734675447, 1658334745, 3170819958, 1678436627, 3160459102, 2995375990]
def backs : List Nat → Nat → Bool
  | [], _ => true
  | q :: qs, x => act q 32 (m8 x ^^^ 2147483648) == 2147483648 && backs qs (m8 x)
theorem backs_spec : ∀ (qs : List Nat) (j : Nat), backs qs (m8n j 2147483648) = true → ∀ k, k < qs.length → ∃ q, act q 32 (m8n (j + k + 1) 2147483648 ^^^ 2147483648) = 2147483648
  | [], _, _, k, hk => absurd hk (by simp)
  | q :: qs, j, h, k, hk => by
    simp only [backs, Bool.and_eq_true, beq_iff_eq] at h
    have e : m8 (m8n j 2147483648) = m8n (j + 1) 2147483648 := by
      have : ∀ j r, m8 (m8n j r) = m8n j (m8 r) := by
        intro j; induction j with
        | zero => intro r; rfl
        | succ j ih => intro r; exact ih (m8 r)
      rw [this]; rfl
    rw [e] at h
    cases k with
    | zero => exact ⟨q, h.1⟩
    | succ k =>
      have := backs_spec qs (j + 1) h.2 k (by simpa using hk)
      rwa [show j + 1 + k + 1 = j + (k + 1) + 1 by omega] at this
theorem backs200 : backs turnsBack 2147483648 = true := by decide +kernel
theorem backs_len : turnsBack.length = 200 := by decide +kernel
theorem zeros_fix {k : Nat} (h1 : 1 ≤ k) (h2 : k ≤ 200) {r : Nat} (hr : r < 4294967296) (h : m8n k r = r) : r = 0 := by
  obtain ⟨q, hq⟩ := backs_spec turnsBack 0 backs200 (k - 1) (by rw [backs_len]; omega)
  rw [show 0 + (k - 1) + 1 = k by omega, m8n_msn] at hq
  have := act_all hq hr
  rw [← m8n_msn, h, Nat.xor_self, act_zero] at this
  exact this.symm
theorem m8n_zero : ∀ k, m8n k 0 = 0
  | 0 => rfl
  | k + 1 => by show m8n k (m8 0) = 0; rw [m8_zero]; exact m8n_zero k
theorem crc_behind {k : Nat} (h1 : 1 ≤ k) (h2 : k ≤ 200) (b : List UInt8) : crc (b ++ List.replicate k 0) = crc b ↔ crc b = 4294967295 := by
  have hlt := crcReg_lt b (r := 4294967295) (by decide)
  constructor
  · intro h
    have h3 := crc_eq h
    rw [crcReg_append, crcReg_zeros] at h3
    have := zeros_fix h1 h2 hlt h3
    unfold crc; omega
  · intro h
    have h3 : crcReg 4294967295 b = 0 := by unfold crc at h; omega
    unfold crc
    rw [crcReg_append, crcReg_zeros, h3, m8n_zero]
end Go.Am
