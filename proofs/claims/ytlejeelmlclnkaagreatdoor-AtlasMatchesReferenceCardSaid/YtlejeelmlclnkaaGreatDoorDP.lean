/- PLAIN LAWS OF DIGESTS: mixing is one to one; blocks; digits; lists. No program is spoken of here. -/
import Derived.Below
set_option linter.unusedSimpArgs false
set_option linter.unusedVariables false
namespace Go.Proofs.YtlejeelmlclnkaaGreatDoor.Dg
def M : Nat := 18446744073709551616
def C1 : Nat := 2862933555777941757
def C2 : Nat := 3935559000370003845
def mulM (c x : Nat) : Nat := x * c % M
def xsh (s x : Nat) : Nat := x ^^^ (x >>> s)
def mix (x : Nat) : Nat := xsh 29 (mulM C2 (xsh 32 (mulM C1 x)))
theorem mulM_lt (c x : Nat) : mulM c x < M := Nat.mod_lt _ (by decide)
theorem xsh_lt {s x : Nat} (h : x < M) : xsh s x < M := by
  have h2 : x >>> s < 2 ^ 64 := Nat.lt_of_le_of_lt (Nat.shiftRight_le x s) h
  exact Nat.xor_lt_two_pow h h2
theorem mix_lt (x : Nat) : mix x < M := xsh_lt (mulM_lt _ _)
theorem mulM_inv {c i x : Nat} (h : c * i % M = 1) (hx : x < M) : mulM i (mulM c x) = x := by
  unfold mulM
  rw [Nat.mod_mul_mod, Nat.mul_assoc, Nat.mul_mod, h, Nat.mul_one, Nat.mod_mod, Nat.mod_eq_of_lt hx]
theorem mulM_inj {c i x y : Nat} (h : c * i % M = 1) (hx : x < M) (hy : y < M) (e : mulM c x = mulM c y) : x = y := by
  rw [← mulM_inv h hx, ← mulM_inv h hy, e]
theorem big_shift {x s : Nat} (h : x < M) (hs : 64 ≤ s) : x >>> s = 0 := by
  rw [Nat.shiftRight_eq_div_pow, Nat.div_eq_of_lt]
  exact Nat.lt_of_lt_of_le h (Nat.pow_le_pow_right (show 0 < 2 by decide) hs)
theorem xsh_inv32 {x : Nat} (h : x < M) : xsh 32 (xsh 32 x) = x := by
  unfold xsh
  rw [Nat.shiftRight_xor_distrib, ← Nat.shiftRight_add, big_shift (s := 32 + 32) h (by decide), Nat.xor_zero, Nat.xor_assoc, Nat.xor_self, Nat.xor_zero]
theorem xsh_inj32 {x y : Nat} (hx : x < M) (hy : y < M) (e : xsh 32 x = xsh 32 y) : x = y := by
  rw [← xsh_inv32 hx, ← xsh_inv32 hy, e]
theorem xsh_inv29 {x : Nat} (h : x < M) : xsh 29 x ^^^ (xsh 29 x >>> 29) ^^^ (xsh 29 x >>> 58) = x := by
  unfold xsh
  rw [Nat.shiftRight_xor_distrib, Nat.shiftRight_xor_distrib, ← Nat.shiftRight_add, ← Nat.shiftRight_add, big_shift (s := 29 + 58) h (by decide), Nat.xor_zero, show 29 + 29 = 58 from rfl]
  rw [Nat.xor_assoc x, ← Nat.xor_assoc (x >>> 29), Nat.xor_self, Nat.zero_xor, Nat.xor_assoc, Nat.xor_self, Nat.xor_zero]
theorem xsh_inj29 {x y : Nat} (hx : x < M) (hy : y < M) (e : xsh 29 x = xsh 29 y) : x = y := by
  rw [← xsh_inv29 hx, ← xsh_inv29 hy, e]
theorem mix_inj {x y : Nat} (hx : x < M) (hy : y < M) (e : mix x = mix y) : x = y := by
  unfold mix at e
  have h1 := xsh_inj29 (mulM_lt _ _) (mulM_lt _ _) e
  have h2 := mulM_inj (i := 13700500150304694605) (by decide +kernel) (xsh_lt (mulM_lt _ _)) (xsh_lt (mulM_lt _ _)) h1
  have h3 := xsh_inj32 (mulM_lt _ _) (mulM_lt _ _) h2
  exact mulM_inj (i := 16133697096952638549) (by decide +kernel) hx hy h3
/-- big-endian value -/
def be (l : List UInt8) : Nat := l.foldl (fun n b => n * 256 + b.toNat) 0
theorem be_foldl (l : List UInt8) (n : Nat) : l.foldl (fun n b => n * 256 + b.toNat) n = n * 256 ^ l.length + be l := by
  induction l generalizing n with
  | nil => simp [be]
  | cons b l ih =>
    unfold be
    rw [List.foldl_cons, List.foldl_cons, ih, ih (0 * 256 + b.toNat), List.length_cons, Nat.pow_succ, Nat.zero_mul, Nat.zero_add, Nat.add_mul, Nat.add_assoc, Nat.mul_assoc, Nat.mul_comm 256]
theorem be_cons (b : UInt8) (l : List UInt8) : be (b :: l) = b.toNat * 256 ^ l.length + be l := by
  show (b :: l).foldl _ 0 = _
  rw [List.foldl_cons, be_foldl, Nat.zero_mul, Nat.zero_add]
theorem be_snoc (l : List UInt8) (b : UInt8) : be (l ++ [b]) = be l * 256 + b.toNat := by unfold be; rw [List.foldl_append]; rfl
theorem be_lt (l : List UInt8) : be l < 256 ^ l.length := by
  induction l with
  | nil => simp [be]
  | cons b l ih =>
    rw [be_cons, List.length_cons, Nat.pow_succ]
    have hb := b.toNat_lt
    have : b.toNat * 256 ^ l.length ≤ 255 * 256 ^ l.length := Nat.mul_le_mul_right _ (by omega)
    have e : 256 ^ l.length * 256 = 255 * 256 ^ l.length + 256 ^ l.length := by rw [Nat.mul_comm, show (256 : Nat) = 255 + 1 from rfl, Nat.add_mul, Nat.one_mul]
    rw [e]; omega
theorem be_inj : ∀ {l m : List UInt8}, l.length = m.length → be l = be m → l = m
  | [], [], _, _ => rfl
  | a :: l, b :: m, hl, he => by
    have hlm : l.length = m.length := by simpa using hl
    rw [be_cons, be_cons, hlm] at he
    have h1 := be_lt l; have h2 := be_lt m
    rw [hlm] at h1
    have hpos : 0 < 256 ^ m.length := Nat.pow_pos (by decide)
    have e1 : a.toNat = b.toNat := by
      have := congrArg (· / 256 ^ m.length) he
      rw [Nat.mul_comm, Nat.mul_add_div hpos, Nat.mul_comm b.toNat, Nat.mul_add_div hpos, Nat.div_eq_of_lt h1, Nat.div_eq_of_lt h2] at this
      omega
    have e2 : be l = be m := by rw [e1] at he; omega
    rw [UInt8.toNat_inj.1 e1, be_inj hlm e2]
/-- the number of a block, filled up by zeros -/
def blk (l : List UInt8) : Nat := be l * 256 ^ (8 - l.length)
theorem blk_lt {l : List UInt8} (h : l.length ≤ 8) : blk l < M := by
  unfold blk M
  have h1 := be_lt l
  have hpos : 0 < 256 ^ (8 - l.length) := Nat.pow_pos (by decide)
  calc be l * 256 ^ (8 - l.length) < 256 ^ l.length * 256 ^ (8 - l.length) := (Nat.mul_lt_mul_right hpos).2 h1
    _ = 256 ^ 8 := by rw [← Nat.pow_add]; congr 1; omega
    _ = 18446744073709551616 := by decide
theorem blk_inj {l m : List UInt8} (h : l.length = m.length) (e : blk l = blk m) : l = m := by
  unfold blk at e
  rw [h] at e
  exact be_inj h (Nat.eq_of_mul_eq_mul_right (Nat.pow_pos (by decide)) e)
def step (st : Nat) (p : List UInt8) : Nat := mix (st ^^^ blk p)
theorem xor_lt {a b : Nat} (ha : a < M) (hb : b < M) : a ^^^ b < M := Nat.xor_lt_two_pow (n := 64) ha hb
theorem step_lt (st : Nat) (p : List UInt8) : step st p < M := mix_lt _
theorem xor_inj {a b c : Nat} (e : a ^^^ c = b ^^^ c) : a = b := by
  have := congrArg (· ^^^ c) e
  simpa [Nat.xor_assoc] using this
theorem xor_inj' {a b c : Nat} (e : c ^^^ a = c ^^^ b) : a = b := by rw [Nat.xor_comm c, Nat.xor_comm c] at e; exact xor_inj e
theorem step_inj {s t : Nat} {p : List UInt8} (hs : s < M) (ht : t < M) (hp : p.length ≤ 8) (e : step s p = step t p) : s = t :=
  xor_inj (mix_inj (xor_lt hs (blk_lt hp)) (xor_lt ht (blk_lt hp)) e)
theorem step_inj' {s : Nat} {p q : List UInt8} (hs : s < M) (hp : p.length ≤ 8) (hl : p.length = q.length) (e : step s p = step s q) : p = q :=
  blk_inj hl (xor_inj' (mix_inj (xor_lt hs (blk_lt hp)) (xor_lt hs (blk_lt (by omega))) e))
/-- all blocks, the last one (fewer than eight bytes) too -/
def run (st : Nat) (l : List UInt8) : Nat := if h : 8 ≤ l.length then run (step st (l.take 8)) (l.drop 8) else step st l
termination_by l.length
decreasing_by simp; omega
theorem run_more {st : Nat} {l : List UInt8} (h : 8 ≤ l.length) : run st l = run (step st (l.take 8)) (l.drop 8) := by rw [run, dif_pos h]
theorem run_last {st : Nat} {l : List UInt8} (h : l.length < 8) : run st l = step st l := by rw [run, dif_neg (by omega)]
theorem run_lt (st : Nat) (l : List UInt8) : run st l < M := by
  by_cases h : 8 ≤ l.length
  · rw [run_more h]; exact run_lt _ _
  · rw [run_last (by omega)]; exact step_lt _ _
termination_by l.length
decreasing_by simp; omega
theorem run_inj {s t : Nat} {l : List UInt8} (hs : s < M) (ht : t < M) (e : run s l = run t l) : s = t := by
  by_cases h : 8 ≤ l.length
  · rw [run_more h, run_more h] at e
    exact step_inj hs ht (by rw [List.length_take]; omega) (run_inj (step_lt _ _) (step_lt _ _) e)
  · rw [run_last (by omega), run_last (by omega)] at e
    exact step_inj hs ht (by omega) e
termination_by l.length
decreasing_by simp; omega
def init (n : Nat) : Nat := 1181783497276652981 ^^^ n
def sumN (l : List UInt8) : Nat := run (init l.length) l
theorem sumN_lt (l : List UInt8) : sumN l < M := run_lt _ _
theorem init_lt {n : Nat} (h : n < M) : init n < M := xor_lt (by decide) h
theorem short_inj {a b : List UInt8} (ha : a.length ≤ 7) (hb : b.length ≤ 7) (e : sumN a = sumN b) : a = b := by
  unfold sumN at e
  rw [run_last (by omega), run_last (by omega)] at e
  have la : a.length < M := Nat.lt_of_le_of_lt ha (by decide)
  have lb : b.length < M := Nat.lt_of_le_of_lt hb (by decide)
  have h1 := mix_inj (xor_lt (init_lt la) (blk_lt (by omega))) (xor_lt (init_lt lb) (blk_lt (by omega))) e
  unfold init at h1
  rw [Nat.xor_assoc, Nat.xor_assoc] at h1
  have h2 := xor_inj' h1
  have m8 : ∀ l : List UInt8, l.length ≤ 7 → blk l % 256 = 0 := fun l hl => by
    unfold blk
    rw [show 8 - l.length = (7 - l.length) + 1 by omega, Nat.pow_succ, ← Nat.mul_assoc, Nat.mul_mod_left]
  have low : ∀ x y : Nat, (x ^^^ y) % 256 = (x % 256) ^^^ (y % 256) := fun x y => by
    have := Nat.xor_mod_two_pow (a := x) (b := y) (n := 8)
    simpa using this
  have h3 := congrArg (· % 256) h2
  simp only [low, m8 a ha, m8 b hb, Nat.xor_zero] at h3
  rw [Nat.mod_eq_of_lt (by omega), Nat.mod_eq_of_lt (by omega)] at h3
  rw [h3] at h2
  exact blk_inj h3 (xor_inj' h2)
/-- the state behind whole blocks -/
def pre (st : Nat) (l : List UInt8) : Nat := if h : 8 ≤ l.length then pre (step st (l.take 8)) (l.drop 8) else st
termination_by l.length
decreasing_by simp; omega
theorem pre_lt {st : Nat} (hs : st < M) (l : List UInt8) : pre st l < M := by
  by_cases h : 8 ≤ l.length
  · rw [pre, dif_pos h]; exact pre_lt (step_lt _ _) _
  · rw [pre, dif_neg h]; exact hs
termination_by l.length
decreasing_by simp; omega
theorem run_pre (st : Nat) (l m : List UInt8) (h : l.length % 8 = 0) : run st (l ++ m) = run (pre st l) m := by
  by_cases h8 : 8 ≤ l.length
  · rw [pre, dif_pos h8, run_more (by rw [List.length_append]; omega), List.take_append_of_le_length h8, List.drop_append_of_le_length h8]
    exact run_pre _ _ _ (by rw [List.length_drop]; omega)
  · have : l = [] := List.eq_nil_of_length_eq_zero (by omega)
    subst this
    rw [pre, dif_neg (by simp)]; rfl
termination_by l.length
decreasing_by simp; omega
theorem piece_inj {s : Nat} {a b r : List UInt8} (hs : s < M) (hl : a.length = b.length) (ha : a.length ≤ 8) (e : run s (a ++ r) = run s (b ++ r)) : a = b := by
  by_cases h : 8 ≤ (a ++ r).length
  · have h' : 8 ≤ (b ++ r).length := by simpa [hl] using h
    rw [run_more h, run_more h'] at e
    have ed : (a ++ r).drop 8 = (b ++ r).drop 8 := by rw [List.drop_append, List.drop_append, List.drop_of_length_le ha, List.drop_of_length_le (show b.length ≤ 8 by omega), hl]
    rw [ed] at e
    have h1 := run_inj (step_lt _ _) (step_lt _ _) e
    have h2 := step_inj' hs (by rw [List.length_take]; omega) (by rw [List.length_take, List.length_take]; simp [hl]) h1
    rw [List.take_append, List.take_append, List.take_of_length_le ha, List.take_of_length_le (show b.length ≤ 8 by omega), hl] at h2
    exact List.append_cancel_right h2
  · have h' : ¬ 8 ≤ (b ++ r).length := by simpa [hl] using h
    rw [run_last (by omega), run_last (by omega)] at e
    have h2 := step_inj' hs (by omega) (by simp [hl]) e
    exact List.append_cancel_right h2
theorem block_inj {t a b r : List UInt8} (ht : t.length % 8 = 0) (hl : a.length = b.length) (ha : a.length ≤ 8) (hn : (t ++ a ++ r).length < M) (e : sumN (t ++ a ++ r) = sumN (t ++ b ++ r)) : a = b := by
  unfold sumN at e
  have en : (t ++ b ++ r).length = (t ++ a ++ r).length := by simp [hl]
  rw [en, List.append_assoc, List.append_assoc, run_pre _ _ _ ht, run_pre _ _ _ ht] at e
  exact piece_inj (pre_lt (init_lt (by simpa using hn)) _) hl ha e
def hexd (n : Nat) : UInt8 := if n < 10 then UInt8.ofNat (48 + n) else UInt8.ofNat (87 + n)
def isHex (b : UInt8) : Bool := (decide (48 ≤ b.toNat) && decide (b.toNat ≤ 57)) || (decide (97 ≤ b.toNat) && decide (b.toNat ≤ 102))
theorem hexd_nat {n : Nat} (h : n < 16) : (hexd n).toNat = if n < 10 then 48 + n else 87 + n := by
  unfold hexd; split <;> (rw [UInt8.toNat_ofNat_of_lt']; exact Nat.lt_of_le_of_lt (show _ ≤ 102 by omega) (by decide))
theorem hexd_inj {n m : Nat} (hn : n < 16) (hm : m < 16) (e : hexd n = hexd m) : n = m := by
  have := congrArg UInt8.toNat e
  rw [hexd_nat hn, hexd_nat hm] at this
  split at this <;> split at this <;> omega
theorem hexd_hex {n : Nat} (h : n < 16) : isHex (hexd n) = true := by
  unfold isHex
  rw [hexd_nat h]
  split <;> simp <;> omega
def hex : Nat → Nat → List UInt8
  | 0, _ => []
  | k + 1, n => hex k (n / 16) ++ [hexd (n % 16)]
theorem hex_len : ∀ (k n : Nat), (hex k n).length = k
  | 0, _ => rfl
  | k + 1, n => by rw [hex, List.length_append, hex_len k]; rfl
theorem hex_all : ∀ (k n : Nat), ∀ b ∈ hex k n, isHex b = true
  | 0, _ => by simp [hex]
  | k + 1, n => by
    intro b hb
    rw [hex, List.mem_append] at hb
    rcases hb with hb | hb
    · exact hex_all k _ b hb
    · simp at hb; subst hb; exact hexd_hex (Nat.mod_lt _ (by decide))
theorem hex_inj : ∀ (k n m : Nat), n < 16 ^ k → m < 16 ^ k → hex k n = hex k m → n = m
  | 0, n, m, hn, hm, _ => by simp at hn hm; omega
  | k + 1, n, m, hn, hm, e => by
    rw [hex, hex] at e
    have hl : (hex k (n / 16)).length = (hex k (m / 16)).length := by rw [hex_len, hex_len]
    obtain ⟨e1, e2⟩ := List.append_inj e hl
    have h1 := hexd_inj (Nat.mod_lt _ (by decide)) (Nat.mod_lt _ (by decide)) (List.cons.inj e2).1
    have h2 := hex_inj k (n / 16) (m / 16) (by rw [Nat.pow_succ] at hn; omega) (by rw [Nat.pow_succ] at hm; omega) e1
    omega
def sumL (l : List UInt8) : List UInt8 := hex 16 (sumN l)
theorem sumL_inj {a b : List UInt8} (e : sumL a = sumL b) : sumN a = sumN b := hex_inj 16 _ _ (sumN_lt a) (sumN_lt b) e
def isD (l : List UInt8) : Bool := decide (l.length = 16) && l.all isHex
theorem sumL_isD (l : List UInt8) : isD (sumL l) = true := by
  unfold isD sumL
  rw [hex_len, Bool.and_eq_true, List.all_eq_true]
  exact ⟨by decide, hex_all _ _⟩
theorem isD_long {l : List UInt8} (h : l.length ≠ 16) : isD l = false := by unfold isD; simp [h]
theorem isD_put {l : List UInt8} {k : Nat} {b : UInt8} (hk : k < l.length) (hb : isHex b = false) : isD (l.take k ++ b :: l.drop (k + 1)) = false := by
  unfold isD
  rw [Bool.and_eq_false_iff]
  refine .inr ?_
  rw [List.all_append, List.all_cons, hb]; simp
theorem short_iff {a b : List UInt8} (ha : a.length ≤ 7) (hb : b.length ≤ 7) : sumL a = sumL b ↔ a = b := ⟨fun e => short_inj ha hb (sumL_inj e), fun e => by rw [e]⟩
theorem block_iff {t a b r : List UInt8} (ht : t.length % 8 = 0) (hl : a.length = b.length) (ha : a.length ≤ 8) (hn : (t ++ a ++ r).length < M) : sumL (t ++ a ++ r) = sumL (t ++ b ++ r) ↔ a = b :=
  ⟨fun e => block_inj ht hl ha hn (sumL_inj e), fun e => by rw [e]⟩
/-! ### lists -/
def decd (n : Nat) : UInt8 := UInt8.ofNat (48 + n)
def dec (n : Nat) : List UInt8 := if n < 10 then [decd n] else dec (n / 10) ++ [decd (n % 10)]
theorem decd_nat {n : Nat} (h : n < 10) : (decd n).toNat = 48 + n := by
  unfold decd; rw [UInt8.toNat_ofNat_of_lt']; exact Nat.lt_of_le_of_lt (show 48 + n ≤ 57 by omega) (by decide)
theorem decd_inj {n m : Nat} (hn : n < 10) (hm : m < 10) (e : decd n = decd m) : n = m := by
  have := congrArg UInt8.toNat e
  rw [decd_nat hn, decd_nat hm] at this; omega
theorem dec_one {n : Nat} (h : n < 10) : dec n = [decd n] := by rw [dec, if_pos h]
theorem dec_more {n : Nat} (h : ¬ n < 10) : dec n = dec (n / 10) ++ [decd (n % 10)] := by rw [dec, if_neg h]
theorem dec_ne (n : Nat) : dec n ≠ [] := by rw [dec]; split <;> simp
theorem dec_colon (n : Nat) : (58 : UInt8) ∉ dec n := by
  have key : ∀ k, k < 10 → (58 : UInt8) ≠ decd k := fun k hk e => by
    have := congrArg UInt8.toNat e
    rw [decd_nat hk] at this
    have h58 : (58 : UInt8).toNat = 58 := by decide
    omega
  rw [dec]
  split
  · rename_i h; simpa using key n h
  · rw [List.mem_append]
    rintro (h | h)
    · exact dec_colon (n / 10) h
    · simp at h; exact key _ (Nat.mod_lt _ (by decide)) h
termination_by n
decreasing_by omega
theorem dec_inj {n m : Nat} (e : dec n = dec m) : n = m := by
  by_cases hn : n < 10
  · by_cases hm : m < 10
    · rw [dec_one hn, dec_one hm] at e
      exact decd_inj hn hm (List.cons.inj e).1
    · rw [dec_one hn, dec_more hm] at e
      have := congrArg List.length e
      rw [List.length_append] at this
      have h2 := List.length_pos_iff.2 (dec_ne (m / 10))
      simp only [List.length_singleton] at this; omega
  · by_cases hm : m < 10
    · rw [dec_more hn, dec_one hm] at e
      have := congrArg List.length e
      rw [List.length_append] at this
      have h2 := List.length_pos_iff.2 (dec_ne (n / 10))
      simp only [List.length_singleton] at this; omega
    · rw [dec_more hn, dec_more hm] at e
      obtain ⟨e1, e2⟩ := List.append_inj' e rfl
      have h1 := decd_inj (Nat.mod_lt _ (by decide)) (Nat.mod_lt _ (by decide)) (List.cons.inj e2).1
      have h2 := dec_inj e1
      omega
termination_by n
decreasing_by omega
def elem (s : List UInt8) : List UInt8 := dec s.length ++ 58 :: s
def joined (l : List (List UInt8)) : List UInt8 := l.flatMap elem
theorem split_at {b : UInt8} : ∀ {x y r s : List UInt8}, b ∉ x → b ∉ y → x ++ b :: r = y ++ b :: s → x = y ∧ r = s
  | [], [], _, _, _, _, e => ⟨rfl, (List.cons.inj e).2⟩
  | [], c :: y, _, _, _, hy, e => by simp at e; exact absurd e.1 (fun h => hy (by simp [h]))
  | c :: x, [], _, _, hx, _, e => by simp at e; exact absurd e.1.symm (fun h => hx (by simp [h]))
  | c :: x, d :: y, _, _, hx, hy, e => by
    simp only [List.cons_append, List.cons.injEq] at e
    simp at hx hy
    obtain ⟨h1, h2⟩ := split_at hx.2 hy.2 e.2
    exact ⟨by rw [e.1, h1], h2⟩
theorem joined_inj : ∀ {l m : List (List UInt8)}, joined l = joined m → l = m
  | [], [], _ => rfl
  | [], y :: m, e => by
    have := congrArg List.length e
    simp [joined, elem] at this
  | x :: l, [], e => by
    have := congrArg List.length e
    simp [joined, elem] at this
  | x :: l, y :: m, e => by
    unfold joined at e
    rw [List.flatMap_cons, List.flatMap_cons] at e
    unfold elem at e
    rw [List.append_assoc, List.append_assoc, List.cons_append, List.cons_append] at e
    obtain ⟨h1, h2⟩ := split_at (dec_colon _) (dec_colon _) e
    obtain ⟨h3, h4⟩ := List.append_inj h2 (dec_inj h1)
    rw [h3, joined_inj h4]
theorem joined_iff {l m : List (List UInt8)} : joined l = joined m ↔ l = m := ⟨joined_inj, fun e => by rw [e]⟩
theorem one_iff {p a b : List UInt8} (hp : p.length = 6) (hl : a.length = b.length) (ha : a.length ≤ 3) : sumL (joined [p ++ a]) = sumL (joined [p ++ b]) ↔ a = b := by
  have e : ∀ c : List UInt8, c.length = a.length → joined [p ++ c] = (dec (6 + a.length) ++ 58 :: p) ++ c ++ [] := fun c hc => by simp [joined, elem, hp, hc]
  rw [e a rfl, e b hl.symm, dec_one (by omega)]
  exact block_iff (by simp [hp]) hl (by omega) (Nat.lt_of_le_of_lt (show _ ≤ 100 by simp [hp]; omega) (by decide))
end Go.Proofs.YtlejeelmlclnkaaGreatDoor.Dg
