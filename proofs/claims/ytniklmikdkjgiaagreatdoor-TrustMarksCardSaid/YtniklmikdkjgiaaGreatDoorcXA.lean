import Derived.Test.YtniklmikdkjgiaaGreatDoorProg
import Derived.Test.YtniklmikdkjgiaaGreatDoorWD
import Derived.Lib.Hide
import Derived.Below
set_option linter.all false
set_option maxHeartbeats 16000000
set_option maxRecDepth 100000
namespace Go.Proofs.YtniklmikdkjgiaaGreatDoor.At
abbrev T := List UInt8
def lt (a b : T) : Bool := Op.bytesLess a b
theorem lt_irrefl : ∀ a : T, lt a a = false
  | [] => rfl
  | x :: a => by
    have := lt_irrefl a
    unfold lt at this ⊢
    simp [Op.bytesLess, this]
theorem lt_trans : ∀ {a b c : T}, lt a b = true → lt b c = true → lt a c = true
  | _, [], _, h, _ => by unfold lt at h; simp [Op.bytesLess] at h
  | _, _, [], _, h => by unfold lt at h; simp [Op.bytesLess] at h
  | [], _ :: _, _ :: _, _, _ => rfl
  | x :: a, y :: b, z :: c, h, k => by
    have ih := @lt_trans a b c
    unfold lt at h k ih ⊢
    simp only [Op.bytesLess, Bool.or_eq_true, Bool.and_eq_true, decide_eq_true_eq, beq_iff_eq] at h k ⊢
    rcases h with h | ⟨rfl, h⟩
    · rcases k with k | ⟨rfl, k⟩
      · exact .inl (UInt8.lt_trans h k)
      · exact .inl h
    · rcases k with k | ⟨rfl, k⟩
      · exact .inl k
      · exact .inr ⟨rfl, ih h k⟩
theorem lt_total : ∀ {a b : T}, a ≠ b → lt a b = true ∨ lt b a = true
  | [], [], h => absurd rfl h
  | [], _ :: _, _ => .inl rfl
  | _ :: _, [], _ => .inr rfl
  | x :: a, y :: b, h => by
    have ih := @lt_total a b
    unfold lt at ih ⊢
    simp only [Op.bytesLess, Bool.or_eq_true, Bool.and_eq_true, decide_eq_true_eq, beq_iff_eq]
    by_cases e : x = y
    · subst e
      rcases ih (fun e => h (by rw [e])) with h | h
      · exact .inl (.inr ⟨rfl, h⟩)
      · exact .inr (.inr ⟨rfl, h⟩)
    · have : x.toNat ≠ y.toNat := fun h => e (UInt8.toNat_inj.1 h)
      rcases Nat.lt_or_gt_of_ne this with h | h
      · exact .inl (.inl (UInt8.lt_iff_toNat_lt.2 h))
      · exact .inr (.inl (UInt8.lt_iff_toNat_lt.2 h))
theorem lt_asymm {a b : T} (h : lt a b = true) : lt b a = false := by
  cases k : lt b a
  · rfl
  · have := lt_trans h k; rw [lt_irrefl] at this; cases this
theorem lt_ne {a b : T} (h : lt a b = true) : a ≠ b := fun e => by rw [e, lt_irrefl] at h; cases h
def letterB (c : UInt8) : Bool := (decide (97 ≤ c) && decide (c ≤ 122)) || (decide (65 ≤ c) && decide (c ≤ 90))
def tailB (c : UInt8) : Bool := letterB c || (decide (48 ≤ c) && decide (c ≤ 57)) || decide (c = 95)
def nameB : T → Bool
  | [] => false
  | c :: r => letterB c && r.all tailB && decide (r.length + 1 ≤ 24)
def tagsFrom : T → List (T × T) → Bool
  | _, [] => true
  | last, t :: l => nameB t.1 && lt last t.1 && decide (t.2 ≠ []) && decide (t.2.length ≤ 200) && tagsFrom t.1 l
def tagsB (l : List (T × T)) : Bool := tagsFrom [] l && decide (l.length ≤ 60)
structure Ob where
  id : T
  kind : Int
  x : Int
  y : Int
  refs : List T
  tags : List (T × T)
def refsFrom (kind : Int) : T → List T → List T → Bool
  | _, _, [] => true
  | last, seen, s :: l => !(decide (kind = 2) && decide (s = last) || decide (kind = 3) && decide (s ∈ seen)) && nameB s && refsFrom kind s (s :: seen) l
def leastF (kind : Int) : Nat := if kind = 2 then 2 else if kind = 3 then 3 else if kind = 4 then 1 else if kind = 5 then 3 else 0
def onB (x y : Int) : Bool := decide (0 ≤ x) && decide (x < 1048576) && decide (0 ≤ y) && decide (y < 1048576)
def zeroAt (o : Ob) : Bool := decide (o.x = 0) && decide (o.y = 0)
def kindB (kind : Int) : Bool := decide (1 ≤ kind) && decide (kind ≤ 5)
def formB (o : Ob) : Bool := if o.kind = 1 then decide (o.refs.length = 0) && onB o.x o.y else if o.kind = 5 then decide (o.refs.length = 3) && zeroAt o else zeroAt o
def validO (o : Ob) : Bool :=
  kindB o.kind && nameB o.id && tagsB o.tags && decide (leastF o.kind ≤ o.refs.length) && decide (o.refs.length ≤ 2000) && refsFrom o.kind [] [] o.refs && formB o
def sameO (a b : Ob) : Bool := decide (a.id = b.id) && decide (a.kind = b.kind) && decide (a.x = b.x) && decide (a.y = b.y) && decide (a.refs = b.refs) && decide (a.tags = b.tags)
def Srt (l : List Ob) : Prop := l.Pairwise fun a b => lt a.id b.id = true
def look (l : List Ob) (id : T) : Option Ob := l.find? fun o => decide (o.id = id)
theorem look_none {l : List Ob} {id : T} : look l id = none ↔ ∀ o ∈ l, o.id ≠ id := by
  unfold look
  rw [List.find?_eq_none]
  simp
def pos (l : List Ob) (id : T) : Nat := (l.filter fun o => lt o.id id).length
def has (l : List Ob) (id : T) : Bool := (look l id).isSome
def below (l : List Ob) (id : T) : List Ob := l.filter fun o => lt o.id id
def above (l : List Ob) (id : T) : List Ob := l.filter fun o => lt id o.id
theorem above_all {l : List Ob} {id : T} (h : ∀ o ∈ l, lt id o.id = true) : below l id = [] ∧ above l id = l ∧ look l id = none := by
  refine ⟨?_, ?_, ?_⟩
  · unfold below
    rw [List.filter_eq_nil_iff]
    intro o ho
    simp [lt_asymm (h o ho)]
  · unfold above
    rw [List.filter_eq_self]
    exact h
  · rw [look_none]
    intro o ho e
    exact lt_ne (h o ho) e.symm
theorem parts : ∀ {l : List Ob}, Srt l → ∀ id : T, l = below l id ++ ((look l id).toList ++ above l id)
  | [], _, _ => rfl
  | o :: l, h, id => by
    have h' := List.pairwise_cons.1 h
    by_cases e : o.id = id
    · subst e
      obtain ⟨h1, h2, h3⟩ := above_all h'.1
      unfold below above look at *
      rw [List.filter_cons_of_neg (by simp [lt_irrefl]), List.find?_cons_of_pos (by simp), List.filter_cons_of_neg (by simp [lt_irrefl]), h1, h2]
      rfl
    · rcases lt_total e with k | k
      · have ih := parts h'.2 id
        unfold below above look at *
        rw [List.filter_cons_of_pos (by simpa using k), List.find?_cons_of_neg (by simpa using e), List.filter_cons_of_neg (by simp [lt_asymm k]), List.cons_append, ← ih]
      · have hall : ∀ x ∈ o :: l, lt id x.id = true := fun x hx => by
          rcases List.mem_cons.1 hx with rfl | hx
          · exact k
          · exact lt_trans k (h'.1 x hx)
        obtain ⟨h1, h2, h3⟩ := above_all hall
        rw [h1, h2, h3]; rfl
def putF (l : List Ob) (o : Ob) : List Ob := below l o.id ++ o :: above l o.id
end Go.Proofs.YtniklmikdkjgiaaGreatDoor.At
namespace Go.Proofs.YtniklmikdkjgiaaGreatDoor.At
end Go.Proofs.YtniklmikdkjgiaaGreatDoor.At
namespace Go.Proofs.YtniklmikdkjgiaaGreatDoor.Dg
def M : Nat := 18446744073709551616
def C1 : Nat := 2862933555777941757
def C2 : Nat := 3935559000370003845
def mulM (c x : Nat) : Nat := x * c % M
def xsh (s x : Nat) : Nat := x ^^^ (x >>> s)
def mix (x : Nat) : Nat := xsh 29 (mulM C2 (xsh 32 (mulM C1 x)))
theorem mulM_lt (c x : Nat) : mulM c x < M := Nat.mod_lt _ (by decide)
theorem xsh_lt {s x : Nat} (h : x < M) : xsh s x < M := by
  have h2 : x >>> s < 2 ^ 64 := Nat.lt_of_le_of_lt (Nat.shiftRight_le x s) h
  exact Nat.xor_lt_two_pow h h2
theorem mix_lt (x : Nat) : mix x < M := xsh_lt (mulM_lt _ _)
def be (l : List UInt8) : Nat := l.foldl (fun n b => n * 256 + b.toNat) 0
theorem be_foldl (l : List UInt8) (n : Nat) : l.foldl (fun n b => n * 256 + b.toNat) n = n * 256 ^ l.length + be l := by
  induction l generalizing n with
  | nil => simp [be]
  | cons b l ih =>
    unfold be
    rw [List.foldl_cons, List.foldl_cons, ih, ih (0 * 256 + b.toNat), List.length_cons, Nat.pow_succ, Nat.zero_mul, Nat.zero_add, Nat.add_mul, Nat.add_assoc, Nat.mul_assoc, Nat.mul_comm 256]
theorem be_cons (b : UInt8) (l : List UInt8) : be (b :: l) = b.toNat * 256 ^ l.length + be l := by
  show (b :: l).foldl _ 0 = _
  rw [List.foldl_cons, be_foldl, Nat.zero_mul, Nat.zero_add]
theorem be_snoc (l : List UInt8) (b : UInt8) : be (l ++ [b]) = be l * 256 + b.toNat := by unfold be; rw [List.foldl_append]; rfl
theorem be_lt (l : List UInt8) : be l < 256 ^ l.length := by
  induction l with
  | nil => simp [be]
  | cons b l ih =>
    rw [be_cons, List.length_cons, Nat.pow_succ]
    have hb := b.toNat_lt
    have : b.toNat * 256 ^ l.length ≤ 255 * 256 ^ l.length := Nat.mul_le_mul_right _ (by omega)
    have e : 256 ^ l.length * 256 = 255 * 256 ^ l.length + 256 ^ l.length := by rw [Nat.mul_comm, show (256 : Nat) = 255 + 1 from rfl, Nat.add_mul, Nat.one_mul]
    rw [e]; omega
def blk (l : List UInt8) : Nat := be l * 256 ^ (8 - l.length)
theorem blk_lt {l : List UInt8} (h : l.length ≤ 8) : blk l < M := by
  unfold blk M
  have h1 := be_lt l
  have hpos : 0 < 256 ^ (8 - l.length) := Nat.pow_pos (by decide)
  calc be l * 256 ^ (8 - l.length) < 256 ^ l.length * 256 ^ (8 - l.length) := (Nat.mul_lt_mul_right hpos).2 h1
    _ = 256 ^ 8 := by rw [← Nat.pow_add]; congr 1; omega
    _ = 18446744073709551616 := by decide
def step (st : Nat) (p : List UInt8) : Nat := mix (st ^^^ blk p)
theorem xor_lt {a b : Nat} (ha : a < M) (hb : b < M) : a ^^^ b < M := Nat.xor_lt_two_pow (n := 64) ha hb
theorem step_lt (st : Nat) (p : List UInt8) : step st p < M := mix_lt _
def run (st : Nat) (l : List UInt8) : Nat := if h : 8 ≤ l.length then run (step st (l.take 8)) (l.drop 8) else step st l
termination_by l.length
decreasing_by simp; omega
theorem run_more {st : Nat} {l : List UInt8} (h : 8 ≤ l.length) : run st l = run (step st (l.take 8)) (l.drop 8) := by rw [run, dif_pos h]
theorem run_last {st : Nat} {l : List UInt8} (h : l.length < 8) : run st l = step st l := by rw [run, dif_neg (by omega)]
theorem run_lt (st : Nat) (l : List UInt8) : run st l < M := by
  by_cases h : 8 ≤ l.length
  · rw [run_more h]; exact run_lt _ _
  · rw [run_last (by omega)]; exact step_lt _ _
termination_by l.length
decreasing_by simp; omega
def init (n : Nat) : Nat := 1181783497276652981 ^^^ n
def sumN (l : List UInt8) : Nat := run (init l.length) l
theorem sumN_lt (l : List UInt8) : sumN l < M := run_lt _ _
theorem init_lt {n : Nat} (h : n < M) : init n < M := xor_lt (by decide) h
def pre (st : Nat) (l : List UInt8) : Nat := if h : 8 ≤ l.length then pre (step st (l.take 8)) (l.drop 8) else st
termination_by l.length
decreasing_by simp; omega
def hexd (n : Nat) : UInt8 := if n < 10 then UInt8.ofNat (48 + n) else UInt8.ofNat (87 + n)
def isHex (b : UInt8) : Bool := (decide (48 ≤ b.toNat) && decide (b.toNat ≤ 57)) || (decide (97 ≤ b.toNat) && decide (b.toNat ≤ 102))
theorem hexd_nat {n : Nat} (h : n < 16) : (hexd n).toNat = if n < 10 then 48 + n else 87 + n := by
  unfold hexd; split <;> (rw [UInt8.toNat_ofNat_of_lt']; exact Nat.lt_of_le_of_lt (show _ ≤ 102 by omega) (by decide))
theorem hexd_hex {n : Nat} (h : n < 16) : isHex (hexd n) = true := by
  unfold isHex
  rw [hexd_nat h]
  split <;> simp <;> omega
def hex : Nat → Nat → List UInt8
  | 0, _ => []
  | k + 1, n => hex k (n / 16) ++ [hexd (n % 16)]
theorem hex_len : ∀ (k n : Nat), (hex k n).length = k
  | 0, _ => rfl
  | k + 1, n => by rw [hex, List.length_append, hex_len k]; rfl
theorem hex_all : ∀ (k n : Nat), ∀ b ∈ hex k n, isHex b = true
  | 0, _ => by simp [hex]
  | k + 1, n => by
    intro b hb
    rw [hex, List.mem_append] at hb
    rcases hb with hb | hb
    · exact hex_all k _ b hb
    · simp at hb; subst hb; exact hexd_hex (Nat.mod_lt _ (by decide))
def sumL (l : List UInt8) : List UInt8 := hex 16 (sumN l)
def isD (l : List UInt8) : Bool := decide (l.length = 16) && l.all isHex
theorem sumL_isD (l : List UInt8) : isD (sumL l) = true := by
  unfold isD sumL
  rw [hex_len, Bool.and_eq_true, List.all_eq_true]
  exact ⟨by decide, hex_all _ _⟩
theorem isD_long {l : List UInt8} (h : l.length ≠ 16) : isD l = false := by unfold isD; simp [h]
def decd (n : Nat) : UInt8 := UInt8.ofNat (48 + n)
def dec (n : Nat) : List UInt8 := if n < 10 then [decd n] else dec (n / 10) ++ [decd (n % 10)]
theorem dec_one {n : Nat} (h : n < 10) : dec n = [decd n] := by rw [dec, if_pos h]
theorem dec_more {n : Nat} (h : ¬ n < 10) : dec n = dec (n / 10) ++ [decd (n % 10)] := by rw [dec, if_neg h]
def elem (s : List UInt8) : List UInt8 := dec s.length ++ 58 :: s
def joined (l : List (List UInt8)) : List UInt8 := l.flatMap elem
end Go.Proofs.YtniklmikdkjgiaaGreatDoor.Dg
