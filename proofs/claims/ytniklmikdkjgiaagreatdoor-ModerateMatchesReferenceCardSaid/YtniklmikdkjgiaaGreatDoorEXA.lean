import Derived.Test.YtniklmikdkjgiaaGreatDoorCXA
set_option linter.all false
set_option maxHeartbeats 16000000
set_option maxRecDepth 100000
namespace Go.Proofs.YtniklmikdkjgiaaGreatDoor.At
end Go.Proofs.YtniklmikdkjgiaaGreatDoor.At
namespace Go.Proofs.YtniklmikdkjgiaaGreatDoor.At
end Go.Proofs.YtniklmikdkjgiaaGreatDoor.At
namespace Go.Proofs.YtniklmikdkjgiaaGreatDoor.Dg
theorem mulM_lt (c x:Nat):mulM c x < M:=Nat.mod_lt _ (by decide)
theorem xsh_lt {s x:Nat} (h:x < M):xsh s x < M:=by
 have h2:x >>> s < 2 ^ 64:=Nat.lt_of_le_of_lt (Nat.shiftRight_le x s) h
 exact Nat.xor_lt_two_pow h h2
theorem mix_lt (x:Nat):mix x < M:=xsh_lt (mulM_lt _ _)
theorem be_foldl (l:List UInt8) (n:Nat):l.foldl (fun n b=>n * 256 + b.toNat) n = n * 256 ^ l.length + be l:=by
 induction l generalizing n with
 | nil=>simp [be]
 | cons b l ih =>
  unfold be
  rw [List.foldl_cons,List.foldl_cons,ih,ih (0 * 256 + b.toNat),List.length_cons,Nat.pow_succ,Nat.zero_mul,Nat.zero_add,Nat.add_mul,Nat.add_assoc,Nat.mul_assoc,Nat.mul_comm 256]
theorem be_cons (b:UInt8) (l:List UInt8):be (b :: l) = b.toNat * 256 ^ l.length + be l:=by
 show (b :: l).foldl _ 0 = _
 rw [List.foldl_cons,be_foldl,Nat.zero_mul,Nat.zero_add]
theorem be_snoc (l:List UInt8) (b:UInt8):be (l ++ [b]) = be l * 256 + b.toNat:=by unfold be; rw [List.foldl_append]; rfl
theorem be_lt (l:List UInt8):be l < 256 ^ l.length:=by
 induction l with
 | nil=>simp [be]
 | cons b l ih =>
  rw [be_cons,List.length_cons,Nat.pow_succ]
  have hb:=b.toNat_lt
  have:b.toNat * 256 ^ l.length ≤ 255 * 256 ^ l.length:=Nat.mul_le_mul_right _ (by omega)
  have e:256 ^ l.length * 256 = 255 * 256 ^ l.length + 256 ^ l.length:=by rw [Nat.mul_comm,show (256:Nat) = 255 + 1 from rfl,Nat.add_mul,Nat.one_mul]
  rw [e]; omega
theorem blk_lt {l:List UInt8} (h:l.length ≤ 8):blk l < M:=by
 unfold blk M
 have h1:=be_lt l
 have hpos:0 < 256 ^ (8 - l.length):=Nat.pow_pos (by decide)
 calc be l * 256 ^ (8 - l.length) < 256 ^ l.length * 256 ^ (8 - l.length):=(Nat.mul_lt_mul_right hpos).2 h1
  _ = 256 ^ 8:=by rw [← Nat.pow_add]; congr 1; omega
  _ = 18446744073709551616:=by decide
theorem xor_lt {a b:Nat} (ha:a < M) (hb:b < M):a ^^^ b < M:=Nat.xor_lt_two_pow (n:=64) ha hb
theorem step_lt (st:Nat) (p:List UInt8):step st p < M:=mix_lt _
theorem run_more {st:Nat} {l:List UInt8} (h:8 ≤ l.length):run st l = run (step st (l.take 8)) (l.drop 8):=by rw [run,dif_pos h]
theorem run_last {st:Nat} {l:List UInt8} (h:l.length < 8):run st l = step st l:=by rw [run,dif_neg (by omega)]
theorem run_lt (st:Nat) (l:List UInt8):run st l < M:=by
 by_cases h:8 ≤ l.length
 ·rw [run_more h]; exact run_lt _ _
 ·rw [run_last (by omega)]; exact step_lt _ _
termination_by l.length
decreasing_by simp; omega
def init (n:Nat):Nat:=1181783497276652981 ^^^ n
def sumN (l:List UInt8):Nat:=run (init l.length) l
theorem sumN_lt (l:List UInt8):sumN l < M:=run_lt _ _
theorem init_lt {n:Nat} (h:n < M):init n < M:=xor_lt (by decide) h
def hexd (n:Nat):UInt8:=if n < 10 then UInt8.ofNat (48 + n) else UInt8.ofNat (87 + n)
theorem hexd_nat {n:Nat} (h:n < 16):(hexd n).toNat = if n < 10 then 48 + n else 87 + n:=by
 unfold hexd; split <;> (rw [UInt8.toNat_ofNat_of_lt']; exact Nat.lt_of_le_of_lt (show _ ≤ 102 by omega) (by decide))
theorem hexd_hex {n:Nat} (h:n < 16):isHex (hexd n) = true:=by
 unfold isHex
 rw [hexd_nat h]
 split <;> simp <;> omega
def hex:Nat → Nat → List UInt8
 | 0,_=>[]
 | k + 1,n=>hex k (n / 16) ++ [hexd (n % 16)]
theorem hex_len:∀ (k n:Nat),(hex k n).length = k
 | 0,_=>rfl
 | k + 1,n=>by rw [hex,List.length_append,hex_len k]; rfl
theorem hex_all:∀ (k n:Nat),∀ b ∈ hex k n,isHex b = true
 | 0,_=>by simp [hex]
 | k + 1,n=>by
  intro b hb
  rw [hex,List.mem_append] at hb
  rcases hb with hb | hb
  ·exact hex_all k _ b hb
  ·simp at hb; subst hb; exact hexd_hex (Nat.mod_lt _ (by decide))
def sumL (l:List UInt8):List UInt8:=hex 16 (sumN l)
theorem sumL_isD (l:List UInt8):isD (sumL l) = true:=by
 unfold isD sumL
 rw [hex_len,Bool.and_eq_true,List.all_eq_true]
 exact ⟨by decide,hex_all _ _⟩
def elem (s:List UInt8):List UInt8:=dec s.length ++ 58 :: s
def joined (l:List (List UInt8)):List UInt8:=l.flatMap elem
end Go.Proofs.YtniklmikdkjgiaaGreatDoor.Dg
