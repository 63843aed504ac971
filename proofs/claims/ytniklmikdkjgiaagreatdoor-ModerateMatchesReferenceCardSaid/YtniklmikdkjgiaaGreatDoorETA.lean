import Derived.Test.YtniklmikdkjgiaaGreatDoorCTA
import Derived.Test.YtniklmikdkjgiaaGreatDoorEXB
import Derived.Test.YtniklmikdkjgiaaGreatDoorEXC
set_option linter.all false
set_option maxHeartbeats 16000000
set_option maxRecDepth 100000
namespace Go.Proofs.YtniklmikdkjgiaaGreatDoor
open Go.RowKit
theorem joined_sizeL {l:List ByteArray} (hs:∀ s ∈ l,s.size ≤ 20000):∀ k,k ≤ l.length → (Dg.joined (bys (l.take k))).length ≤ k * 20010:=by
 intro k
 induction k with
 | zero=>intro _; simp [bys,Dg.joined]
 | succ k ih =>
  intro hk
  rw [joined_take (by omega),List.length_append,List.length_append,List.length_cons]
  have h1:=ih (by omega)
  have h2:=hs _ (List.getElem_mem (show k < l.length by omega))
  have h3:=dec_len 6 l[k].size (by omega) (by decide)
  rw [← Lib.size_eq]
  omega
theorem u64w {x:Int} (h0:0 ≤ x) (h1:x < 18446744073709551616):IntKind.u64.wrap x = x:=by rw [IntKind.wrap]; simp [IntKind.signed,IntKind.bits]; omega
def DigS (N k:Nat) (v:List UInt8):Prop:=(k = 0 ∧ v = Dg.dec N) ∨ (0 < k ∧ Dg.dec k ++ v = Dg.dec N)
theorem digS_step {N k:Nat} {v:List UInt8} (h:DigS N k v) (hk:0 < k):DigS N (k / 10) (Dg.decd (k % 10) :: v):=by
 rcases h with ⟨h,_⟩ | ⟨_,h⟩
 ·omega
 ·by_cases h10:k < 10
  ·rw [Dg.dec_one h10] at h
   exact .inl ⟨by omega,by rw [Nat.mod_eq_of_lt h10]; exact h⟩
  ·rw [Dg.dec_more h10,List.append_assoc] at h
   exact .inr ⟨by omega,h⟩
theorem digS_len {N k:Nat} {v:List UInt8} (h:DigS N k v) (hN:N < 10000000000000000000):v.length ≤ 20:=by
 have h2:=dec_len 20 N (Nat.lt_trans hN (by decide)) (by decide)
 rcases h with ⟨_,h⟩ | ⟨_,h⟩
 ·rw [h]; exact h2
 ·rw [← h,List.length_append] at h2; omega
theorem rdigits_any (N:Nat) (w:World) (hN:N < 10000000000000000000) :
  Calls Tryz.prog 165 #[.int .u64 N] w fun e w'=>e = .returned (.string ⟨(Dg.dec N).toArray⟩) ∧ w = w':=by
 have DA:=digit_at (N % 10) (Nat.mod_lt _ (by decide))
 have m1:(N:Int) % 10 = ((N % 10:Nat):Int):=by omega
 have m3:(N:Int) / 10 = ((N / 10:Nat):Int):=by omega
 have hm:N % 10 < 10:=Nat.mod_lt _ (by decide)
 have x5:IntKind.u64.wrap ((N / 10:Nat):Int) = ((N / 10:Nat):Int):=u64w (by omega) (by omega)
 have hqN:N / 10 < 1000000000000000000:=by omega
 have IV:Hid (DigS N (N / 10) [Dg.decd (N % 10)]):=Lib.hid (by
  by_cases h:N < 10
  ·exact .inl ⟨by omega,by rw [Dg.dec_one h,Nat.mod_eq_of_lt h]⟩
  ·exact .inr ⟨by omega,(Dg.dec_more h).symm⟩)
 have HN:=Lib.hid hN; clear hN
 generalize N % 10 = d at *
 generalize N / 10 = q at *
 have zz:(⟨#[48,49,50,51,52,53,54,55,56,57]⟩:ByteArray).size = 10:=rfl
 have x1:IntKind.u64.wrap ((d:Int) + 1) = (d:Int) + 1:=u64w (by omega) (by omega)
 have x2:((d:Int) + 1).toNat = d + 1:=by omega
 have x3:(d:Int) + 1 ≤ 10:=by omega
 have x4:(d:Int) ≤ (d:Int) + 1:=by omega
 go_enter Tryz.func165, Tryz.ntmps165
 go_wp2_with fail
 go_loop [0,3] (fun i s=>∃ (k:Nat) (v:List UInt8),i = .int .u64 k ∧ s = .string ⟨v.toArray⟩ ∧ k < 1000000000000000000 ∧ Hid (DigS N k v)) (fun i _=>(intOf i).toNat)
 case atStart=>exact ⟨q,[Dg.decd d],rfl,rfl,hqN,IV⟩
 case round =>
  clear IV DA m1 m3 hm x5 hqN x1 x2 x3 x4
  obtain ⟨k,v,rfl,rfl,hk,hv⟩:=hrel
  by_cases h0:0 < k
  ·have h0i:(0:Int) < (k:Int):=by omega
   have DA:=digit_at (k % 10) (Nat.mod_lt _ (by decide))
   have m1:(k:Int) % 10 = ((k % 10:Nat):Int):=by omega
   have m3:(k:Int) / 10 = ((k / 10:Nat):Int):=by omega
   have hm:k % 10 < 10:=Nat.mod_lt _ (by decide)
   have x5:IntKind.u64.wrap ((k / 10:Nat):Int) = ((k / 10:Nat):Int):=u64w (by omega) (by omega)
   have hq2:k / 10 < k:=by omega
   have IV:=Lib.hid (digS_step hv.out h0)
   have LV:=digS_len hv.out HN.out
   generalize k % 10 = d at *
   generalize k / 10 = q at *
   have x1:IntKind.u64.wrap ((d:Int) + 1) = (d:Int) + 1:=u64w (by omega) (by omega)
   have x2:((d:Int) + 1).toNat = d + 1:=by omega
   have x3:(d:Int) + 1 ≤ 10:=by omega
   have x4:(d:Int) ≤ (d:Int) + 1:=by omega
   have zv:=size_mk v
   have a1:∀ u:World,(Op.stringOp .add ⟨#[Dg.decd d]⟩ ⟨v.toArray⟩).run Tryz.prog u = .ok (.string ⟨(Dg.decd d :: v).toArray⟩) u:=fun u=>by
    rw [run_string_add_sum u _ _ (by rw [zv,show (⟨#[Dg.decd d]⟩:ByteArray).size = 1 from rfl]; omega)]
    exact congrArg (fun b=>Result.ok (Value.string b) u) (mk_app [Dg.decd d] v)
   go_wp2_with fail
   go_round
   case rel=>exact ⟨q,Dg.decd d :: v,rfl,rfl,by omega,IV⟩
   case measure=>simp [intOf]; omega
  ·have h0i:¬ (0:Int) < (k:Int):=by omega
   have hk0:k = 0:=by omega
   subst hk0
   have EV:Hid (v = Dg.dec N):=Lib.hid (by rcases hv.out with ⟨_,h⟩ | ⟨h,_⟩; exact h; omega)
   go_wp2_with fail
   go_ret
   exact ⟨by rw [EV.out]; rfl,rfl⟩
theorem rdecimal_any (N:Nat) (w:World) (hN:N ≤ 9223372036854775807) :
  Calls Tryz.prog 139 #[.int .i64 N] w fun e w'=>e = .returned (.string ⟨(Dg.dec N).toArray⟩) ∧ w = w':=by
 have RD:=Lib.hid (fun u=>rdigits_any N u (by omega))
 have x5:IntKind.u64.wrap (N:Int) = (N:Int):=u64w (by omega) (by omega)
 go_enter Tryz.func139, Tryz.ntmps139
 go_wp2_with fail
 refine (RD.out _).mono ?_
 rintro e w1 ⟨rfl,rfl⟩
 go_wp2_with fail
 go_ret
 exact ⟨rfl,rfl⟩
theorem info_u8:(Tryz.prog.info? 5).map (fun i=>(i.zero,i.size,i.bytes)) = some (some (.int .u8 0),1,1):=by kernel_rfl
theorem mk_bytes (n:Nat) (h:n ≤ 140737488355328) (w:World):∃ W,(Instr.makeSlice 137 (.int .i64 0) (.int .i64 (n:Int))).run Tryz.prog w = .ok (.slice (some ⟨w.heap.size,0,none⟩) 0 n) W ∧
  W.ownsRow w.heap.size 5 1 (.slice (some ⟨w.heap.size,0,none⟩) 0 n) 0 [] ∧ Below w.heap.size w W:=by
 obtain ⟨i,hi,hz,hs,hb⟩:=info_parts info_u8
 obtain ⟨W,h1,h2,h3⟩:=run_make_own (P:=Tryz.prog) w w.heap.size 137 5 i (.int .u8 0) 1 Tryz.underlying137 hi hz hs .i64 .i64 n (by rw [hb]; omega) (by unfold maxLen; omega) (Nat.le_refl _)
 exact ⟨W,h1,h2,h3.os,h3.tape,h3.output,h3.size,fun k hk=>h3.block k hk (by simp)⟩
theorem elem_cells (d s:List UInt8):Lib.byteCells d ++ [Value.int .u8 58] ++ Lib.byteCells s = Lib.byteCells (d ++ 58 :: s):=by
 simp [Lib.byteCells]
theorem conv_own {w:World} {B:Nat} {A:Option Addr} {n c:Nat} {l:List UInt8} (h:w.ownsRow B 5 1 (.slice A n c) n (Lib.byteCells l)) (hn:n = l.length) :
  (convert 137 9 (.slice A n c)).run Tryz.prog w = .ok (.string ⟨l.toArray⟩) w:=by
 subst hn
 have hr:=Rd.of_own h
 cases A with
 | none =>
  have h0:l = []:=by
   rcases Nat.eq_zero_or_pos l.length with h0 | h0
   ·exact List.eq_nil_of_length_eq_zero h0
   ·obtain ⟨b,off,e,_⟩:=hr (by simpa [Lib.byteCells] using h0); cases e
  subst h0
  exact run_convert_bytes_nil w 137 5 Tryz.underlying137 Tryz.underlying5 0 c 9 Tryz.underlying9
 | some a =>
  refine run_convert_bytes_back (P:=Tryz.prog) w 137 9 5 a c l Tryz.underlying137 Tryz.underlying5 Tryz.underlying9 (fun j hj=>?_)
  obtain ⟨b,off,e,_,hc⟩:=hr (by simp [Lib.byteCells]; omega)
  cases e
  rw [Addr.add_lit]
  exact hc j _ (by simp [Lib.byteCells,hj])
theorem own_castQ {w:World} {base:Nat} {e:TypeId} {size n n':Nat} {v:Value} {xs xs':List Value} (h:w.ownsRow base e size v n xs) (hn:n = n') (hx:xs = xs'):w.ownsRow base e size v n' xs':=by subst hn hx; exact h
theorem joined_any (A:Option Addr) (n c:Nat) (l:List ByteArray) (w:World) (hn:n = l.length) (hlen:l.length ≤ 40) (hs:∀ s ∈ l,s.size ≤ 20000) (h:Rd w A (l.map Value.string)) :
  Calls Tryz.prog 138 #[.slice A n c] w fun e w'=>e = .returned (.string ⟨(Dg.joined (bys l)).toArray⟩) ∧ Below w.heap.size w w':=by
 subst hn
 obtain ⟨i0,hi,hz0,hz1,hz2⟩:=info_parts info_u8
 have H:=Lib.hid h; clear h
 have HS:=Lib.hid hs; clear hs
 go_enter Tryz.func138, Tryz.ntmps138
 go_wp2_with fail
 go_loop [3,4] (fun m i=>∃ k q:Nat,k ≤ l.length ∧ i = .int .i64 k ∧ m = .int .i64 q ∧ q ≤ 20021 * k) (fun _ i=>l.length - (intOf i).toNat)
 case atStart=>exact ⟨0,0,Nat.zero_le _,rfl,rfl,by omega⟩
 case round =>
  obtain ⟨k,q,hk,rfl,rfl,hq⟩:=hrel
  by_cases hlt:k < l.length
  ·obtain ⟨b,off,rfl,hb,hc⟩:=H.out.map_at hlt
   have ls:=HS.out _ (List.getElem_mem hlt)
   generalize l[k] = s at *
   have w1:IntKind.i64.wrap ((s.size:Int) + 21) = ((s.size + 21:Nat):Int):=IntWalk.i64_in _ (by omega)
   have w2:IntKind.i64.wrap ((q:Int) + ((s.size + 21:Nat):Int)) = ((q + (s.size + 21):Nat):Int):=IntWalk.i64_in _ (by omega)
   go_wp2_with fail
   go_round
   case rel=>exact ⟨k + 1,q + (s.size + 21),hlt,by go_num,by go_num,by omega⟩
   case measure=>simp [intOf]; omega
  ·have hkl:k = l.length:=by omega
   subst hkl
   obtain ⟨W,hmk,hown,hbel⟩:=mk_bytes q (by omega) w
   have HO:Hid (W.ownsRow w.heap.size 5 1 (.slice (some ⟨w.heap.size,0,none⟩) 0 q) (Dg.joined (bys (l.take 0))).length (Lib.byteCells (Dg.joined (bys (l.take 0))))):=Lib.hid hown
   have HB:=Lib.hid hbel; clear hown hbel
   have d1:decide ((l.length:Int) < (l.length:Int)) = false:=by simp
   obtain ⟨B,hB⟩:∃ B,w.heap.size = B:=⟨_,rfl⟩
   have HW:Hid (B = w.heap.size):=Lib.hid hB.symm
   rw [hB] at HO HB hmk; clear hB
   go_wp2_with fail
   clear hmk d1 hq
   go_loopw [5,6] (fun v i wr=>∃ k:Nat,k ≤ l.length ∧ i = .int .i64 k ∧ Hid (wr.ownsRow B 5 1 v (Dg.joined (bys (l.take k))).length (Lib.byteCells (Dg.joined (bys (l.take k))))) ∧ Hid (Below B w wr)) (fun _ i _=>l.length - (intOf i).toNat)
   case atStart=>exact ⟨0,Nat.zero_le _,rfl,HO,HB⟩
   case round =>
    clear HO HB
    obtain ⟨k,hk,rfl,hown,hbl⟩:=hrel
    have hsz:B ≤ wr.heap.size:=by have:=hbl.out.size; rw [HW.out]; exact this
    by_cases hlt:k < l.length
    ·obtain ⟨b0,off,rfl,hb0,hc0⟩:=H.out.map_at hlt
     rw [← HW.out] at hb0
     have HCW:Hid (∀ u,Below B w u → u.cell? ⟨b0,off + k,none⟩ = some (.string l[k])):=Lib.hid (fun u hu=>(hu.cell (p:=⟨b0,off + k,none⟩) hb0).trans hc0)
     have hc:=HCW.out wr hbl.out
     clear hc0
     have JT:=Lib.hid (joined_take hlt)
     have JS:=joined_sizeL HS.out k hk
     have LS:=HS.out _ (List.getElem_mem hlt)
     have DL:=dec_len 6 l[k].size (by omega) (by decide)
     have zd:=size_mk (Dg.dec l[k].size)
     generalize l[k] = s at *
     obtain ⟨A5,c5,rfl,-,-⟩:=own_form hown.out
     go_wp2_with fail
     refine (rdecimal_any s.size wr (by omega)).mono ?_
     rintro e wr' ⟨rfl,rfl⟩
     go_wp2_with (at_builtin; refine Lib.wpList_append_own_string _ rfl _ _ 137 9 rfl B 5 i0 Tryz.underlying137 Tryz.underlying9 hi hz0 hz1 hz2 _ _ _ rfl hown.out ⟨(Dg.dec s.size).toArray⟩ rfl ?c3 ?c4 ?c5 ?_)
     case c3=>rw [zd]; unfold maxLen; omega
     case c4=>rw [zd]; omega
     case c5=>exact hsz
     intro v1 w1 hown1 hg1 _
     have bb1:Hid (Below B wr w1):=Lib.hid (grown_below hg1 (fun k hk=>(hown.out.lt k hk).1) hsz)
     have hs1:B ≤ w1.heap.size:=by have:=bb1.out.size; omega
     obtain ⟨A6,c6,rfl,-,-⟩:=own_form hown1
     have HO1:=Lib.hid hown1; clear hown1 hg1
     go_wp2_with (at_builtin; refine wpList_app1 rfl (.tmp 37) (.tmp 38) 137 rfl Tryz.underlying137 info_u8 rfl (by decide) B (.slice A6 _ c6) _ _ w1 #[.int .u8 58] rfl ?c1 rfl rfl rfl HO1.out hs1 ?c2 ?c3 ?_)
     case c1=>simp [Value.oneCell']
     case c2=>omega
     case c3=>omega
     intro v2 w2 hown2 hb2
     have bb2:=Lib.hid (bb1.out.trans hb2)
     have hs2:B ≤ w2.heap.size:=by have:=hb2.size; omega
     obtain ⟨A7,c7,rfl,-,-⟩:=own_form hown2
     have HO2:=Lib.hid hown2; clear hown2 hb2 HO1 bb1
     have hc2:=HCW.out w2 (hbl.out.trans bb2.out)
     clear hc
     go_wp2_with (at_builtin; refine Lib.wpList_append_own_string _ rfl _ _ 137 9 rfl B 5 i0 Tryz.underlying137 Tryz.underlying9 hi hz0 hz1 hz2 _ _ _ rfl HO2.out s rfl ?c3 ?c4 ?c5 ?_)
     case c3=>unfold maxLen; omega
     case c4=>omega
     case c5=>exact hs2
     intro v3 w3 hown3 hg3 _
     have bb3:Hid (Below B w w3):=Lib.hid ((hbl.out.trans bb2.out).trans (grown_below hg3 (fun k hk=>(HO2.out.lt k hk).1) hs2))
     have HO3:Hid (w3.ownsRow B 5 1 v3 (Dg.joined (bys (l.take (k + 1)))).length (Lib.byteCells (Dg.joined (bys (l.take (k + 1)))))):=Lib.hid (own_castQ hown3 (by rw [JT.out,List.length_append,List.length_append,List.length_cons,← Lib.size_eq]; omega) (by rw [JT.out,byteCells_app,← elem_cells]; simp [Lib.strCells,Lib.byteCells]))
     clear hown3 hg3 HO2
     go_wp2_with fail
     exact ⟨⟨k + 1,hlt,by go_num,HO3,bb3⟩,by simp [intOf]; omega⟩
    ·have hkl:k = l.length:=by omega
     subst hkl
     rw [List.take_length] at hown
     obtain ⟨A5,c5,rfl,-,-⟩:=own_form hown.out
     have hcv:=conv_own hown.out rfl
     have HB2:Hid (Below w.heap.size w wr):=Lib.hid (HW.out ▸ hbl.out)
     go_wp2_with fail
     go_ret
     exact ⟨rfl,HB2.out⟩
theorem mulw (c x:Nat):IntKind.u64.wrap ((x:Int) * (c:Int)) = ((Dg.mulM c x:Nat):Int):=by
 rw [IntKind.wrap_u64]; unfold Dg.mulM Dg.M; rw [← Int.natCast_mul]; omega
theorem rmix_any (x:Nat) (w:World):Calls Tryz.prog 164 #[.int .u64 (x:Int)] w fun e w'=>e = .returned (.int .u64 ((Dg.mix x:Nat):Int)) ∧ w = w':=by
 have e1:=xsh32 (Dg.mulM Dg.C1 x) (Dg.mulM_lt _ _)
 have e2:=xsh29 (Dg.mulM Dg.C2 (Dg.xsh 32 (Dg.mulM Dg.C1 x))) (Dg.mulM_lt _ _)
 have EM:Hid (Dg.mix x = Dg.xsh 29 (Dg.mulM Dg.C2 (Dg.xsh 32 (Dg.mulM Dg.C1 x)))):=Lib.hid rfl
 have m1:IntKind.u64.wrap ((x:Int) * 2862933555777941757) = ((Dg.mulM Dg.C1 x:Nat):Int):=mulw Dg.C1 x
 have m2:IntKind.u64.wrap (((Dg.xsh 32 (Dg.mulM Dg.C1 x):Nat):Int) * 3935559000370003845) = ((Dg.mulM Dg.C2 (Dg.xsh 32 (Dg.mulM Dg.C1 x)):Nat):Int):=mulw Dg.C2 _
 generalize Dg.mulM Dg.C2 (Dg.xsh 32 (Dg.mulM Dg.C1 x)) = q2 at *
 generalize Dg.mulM Dg.C1 x = q1 at *
 generalize Dg.xsh 32 q1 = q3 at *
 generalize Dg.xsh 29 q2 = q4 at *
 go_enter Tryz.func164, Tryz.ntmps164
 go_wp2_with fail
 go_ret
 exact ⟨by rw [EM.out]; rfl,rfl⟩
theorem padAt {s:ByteArray} {f k:Nat} (hk:k < 8) (h:f + k < s.size):∃ h2:k < (pad8 ((s.data.toList.drop f).take 8)).length,(pad8 ((s.data.toList.drop f).take 8))[k] = s[f + k]:=by
 have hl:s.data.toList.length = s.size:=(Lib.size_eq s).symm
 have h1:k < ((s.data.toList.drop f).take 8).length:=by rw [List.length_take,List.length_drop]; omega
 refine ⟨by unfold pad8; rw [List.length_append]; omega,?_⟩
 unfold pad8
 rw [List.getElem_append_left h1,List.getElem_take,List.getElem_drop]
 rfl
theorem padZ {s:ByteArray} {f k:Nat} (hk:k < 8) (h:¬ f + k < s.size):∃ h2:k < (pad8 ((s.data.toList.drop f).take 8)).length,(pad8 ((s.data.toList.drop f).take 8))[k] = 0:=by
 have hl:s.data.toList.length = s.size:=(Lib.size_eq s).symm
 have h1:((s.data.toList.drop f).take 8).length ≤ k:=by rw [List.length_take,List.length_drop]; omega
 have h3:k < (pad8 ((s.data.toList.drop f).take 8)).length:=by rw [pad8_len (by rw [List.length_take]; omega)]; exact hk
 refine ⟨h3,?_⟩
 unfold pad8 at *
 rw [List.getElem_append_right h1,List.getElem_replicate]
theorem hexd_at:∀ d:Nat,d < 16 → (⟨#[48,49,50,51,52,53,54,55,56,57,97,98,99,100,101,102]⟩:ByteArray).extract d (d + 1) = ⟨#[Dg.hexd d]⟩:=by
 intro d hd
 apply ByteArray.ext
 apply Array.ext'
 rw [ext_list]
 rcases lt16 hd with rfl | rfl | rfl | rfl | rfl | rfl | rfl | rfl | rfl | rfl | rfl | rfl | rfl | rfl | rfl | rfl <;> rfl
def RunS (s:ByteArray) (f st:Nat):Prop:=st < Dg.M ∧ ((f ≤ s.size ∧ Dg.run st (s.data.toList.drop f) = Dg.sumN s.data.toList) ∨ (s.size < f ∧ st = Dg.sumN s.data.toList))
theorem runS_step {s:ByteArray} {f st:Nat} (h:RunS s f st) (hf:f ≤ s.size):RunS s (f + 8) (Dg.step st ((s.data.toList.drop f).take 8)):=by
 have hl:s.data.toList.length = s.size:=(Lib.size_eq s).symm
 refine ⟨Dg.step_lt _ _,?_⟩
 rcases h.2 with ⟨_,hr⟩ | ⟨h,_⟩
 ·by_cases h8:f + 8 ≤ s.size
  ·rw [Dg.run_more (by rw [List.length_drop]; omega),List.drop_drop] at hr
   exact .inl ⟨h8,hr⟩
  ·rw [Dg.run_last (by rw [List.length_drop]; omega)] at hr
   rw [List.take_of_length_le (by rw [List.length_drop]; omega)]
   exact .inr ⟨by omega,hr⟩
 ·omega
theorem rsum_any (s:ByteArray) (w:World) (hs:s.size ≤ 1000000) :
  Calls Tryz.prog 137 #[.string s] w fun e w'=>e = .returned (.string ⟨(Dg.sumL s.data.toList).toArray⟩) ∧ w = w':=by
 have hsM:s.size < Dg.M:=Nat.lt_of_le_of_lt hs (by decide)
 have ei:bits .xor .u64 1181783497276652981 (s.size:Int) = ((Dg.init s.size:Nat):Int):=xor_step 1181783497276652981 s.size (by decide) hsM
 have ew:IntKind.u64.wrap (s.size:Int) = (s.size:Int):=u64w (by omega) (by omega)
 have RS:Hid (RunS s 0 (Dg.init s.size)):=Lib.hid ⟨Dg.init_lt hsM,.inl ⟨Nat.zero_le _,by rw [List.drop_zero]; unfold Dg.sumN; rw [← Lib.size_eq]⟩⟩
 clear hsM
 go_enter Tryz.func137, Tryz.ntmps137
 go_wp2_with fail
 go_loop [3,4] (fun st i=>∃ f t:Nat,i = .int .i64 f ∧ st = .int .u64 t ∧ f ≤ 1000008 ∧ Hid (RunS s f t)) (fun _ i=>1000100 - (intOf i).toNat)
 case atStart=>exact ⟨0,Dg.init s.size,rfl,rfl,by omega,RS⟩
 case round =>
  clear RS ei
  obtain ⟨f,st,rfl,rfl,hf,hr⟩:=hrel
  by_cases hlt:f ≤ s.size
  ·have hlti:(f:Int) ≤ (s.size:Int):=by omega
   have d1:¬ (s.size:Int) < (f:Int):=by omega
   have e8:IntKind.i64.wrap ((f:Int) + 8) = (f:Int) + 8:=IntWalk.i64_in _ (by omega)
   have PA:∀ k,k < 8 → f + k < s.size → ∃ h2:k < (pad8 ((s.data.toList.drop f).take 8)).length,(pad8 ((s.data.toList.drop f).take 8))[k] = s[f + k]!:=fun k hk h=>by
    obtain ⟨h2,e⟩:=padAt hk h
    exact ⟨h2,by rw [e,getElem!_pos s (f + k) h]⟩
   have PZ:∀ k,k < 8 → ¬ f + k < s.size → ∃ h2:k < (pad8 ((s.data.toList.drop f).take 8)).length,(pad8 ((s.data.toList.drop f).take 8))[k] = 0:=fun k hk h=>padZ hk h
   have HPA:=Lib.hid PA; have HPZ:=Lib.hid PZ; clear PA PZ
   have PL:Hid ((pad8 ((s.data.toList.drop f).take 8)).length = 8):=Lib.hid (pad8_len (by rw [List.length_take]; omega))
   have PB:Hid (Dg.be (pad8 ((s.data.toList.drop f).take 8)) = Dg.blk ((s.data.toList.drop f).take 8)):=Lib.hid be_pad
   have BL:Hid (Dg.blk ((s.data.toList.drop f).take 8) < Dg.M):=Lib.hid (Dg.blk_lt (by rw [List.length_take]; omega))
   have RN:=Lib.hid (runS_step hr.out hlt)
   have ES:Hid (Dg.step st ((s.data.toList.drop f).take 8) = Dg.mix (st ^^^ Dg.blk ((s.data.toList.drop f).take 8))):=Lib.hid rfl
   generalize pad8 ((s.data.toList.drop f).take 8) = pad at *
   generalize Dg.blk ((s.data.toList.drop f).take 8) = bk at *
   generalize Dg.step st ((s.data.toList.drop f).take 8) = st2 at *
   go_wp2_with fail
   go_loop [5,6] (fun b i=>∃ g:Nat,i = .int .i64 g ∧ b = .int .u64 ((Dg.be (pad.take (g - f)):Nat):Int) ∧ f ≤ g ∧ g ≤ f + 8) (fun _ i=>f + 8 - (intOf i).toNat)
   case atStart=>exact ⟨f,rfl,by rw [Nat.sub_self]; rfl,Nat.le_refl _,by omega⟩
   case round =>
    obtain ⟨g,rfl,rfl,hg1,hg2⟩:=hrel
    by_cases hg:g < f + 8
    ·have hgi:(g:Int) < (f:Int) + 8:=by omega
     have egf:f + (g - f) = g:=by omega
     have eg1:g + 1 - f = g - f + 1:=by omega
     have hn:=be_bound (l:=pad) (k:=g - f) (by omega)
     have g8:IntKind.i64.wrap ((g:Int) + 1) = (g:Int) + 1:=IntWalk.i64_in _ (by omega)
     by_cases hgs:g < s.size
     ·have hgsi:(g:Int) < (s.size:Int):=by omega
      obtain ⟨h2,e⟩:=HPA.out (g - f) (by omega) (by omega)
      have ET:=Lib.hid (be_take h2)
      rw [e] at ET
      simp only [egf] at ET
      have hb:=(s[g]!).toNat_lt
      have eb:s[g]! = s[g]:=getElem!_pos s g hgs
      rw [eb] at ET hb
      generalize Dg.be (pad.take (g - f)) = n at *
      have w1:IntKind.u64.wrap ((n:Int) * 256) = (n:Int) * 256:=by rw [IntKind.wrap_u64]; omega
      have w2:IntKind.u64.wrap ((n:Int) * 256 + ((s[g].toNat:Nat):Int)) = (n:Int) * 256 + ((s[g].toNat:Nat):Int):=by rw [IntKind.wrap_u64]; omega
      have w3:IntKind.u64.wrap ((s[g].toNat:Nat):Int) = ((s[g].toNat:Nat):Int):=by rw [IntKind.wrap_u64]; omega
      clear e eb
      go_wp2_with fail
      go_round
      case rel=>exact ⟨g + 1,by go_num,by rw [eg1,ET.out]; go_num,by omega,by omega⟩
      case measure=>simp [intOf]; omega
     ·have hgsi:¬ (g:Int) < (s.size:Int):=by omega
      obtain ⟨h2,e⟩:=HPZ.out (g - f) (by omega) (by omega)
      have ET:=Lib.hid (be_take h2)
      rw [e,show (0:UInt8).toNat = 0 from rfl,Nat.add_zero] at ET
      generalize Dg.be (pad.take (g - f)) = n at *
      have w1:IntKind.u64.wrap ((n:Int) * 256) = (n:Int) * 256:=by rw [IntKind.wrap_u64]; omega
      clear e
      go_wp2_with fail
      go_round
      case rel=>exact ⟨g + 1,by go_num,by rw [eg1,ET.out]; go_num,by omega,by omega⟩
      case measure=>simp [intOf]; omega
    ·have hgi:¬ (g:Int) < (f:Int) + 8:=by omega
     have hgf:g - f = 8:=by omega
     have e8b:Hid (Dg.be (pad.take (g - f)) = bk):=Lib.hid (by rw [hgf,List.take_of_length_le (by rw [PL.out]; omega),PB.out])
     rw [e8b.out]
     have ex:bits .xor .u64 (st:Int) (bk:Int) = ((st ^^^ bk:Nat):Int):=xor_step st bk hr.out.1 BL.out
     have MX:=Lib.hid (fun u=>rmix_any (st ^^^ bk) u)
     rw [← ES.out] at MX
     go_wp2_with fail
     refine (MX.out _).mono ?_
     rintro e w' ⟨rfl,rfl⟩
     go_wp2_with fail
     go_round
     case rel=>exact ⟨f + 8,st2,by go_num,rfl,by omega,RN⟩
     case measure=>simp [intOf]; omega
  ·have hlti:¬ (f:Int) ≤ (s.size:Int):=by omega
   have EQ:Hid (st = Dg.sumN s.data.toList):=Lib.hid (by rcases hr.out.2 with ⟨h,_⟩ | ⟨_,h⟩; omega; exact h)
   have SM:=Lib.hid (Dg.sumN_lt s.data.toList)
   have EL:Hid (Dg.sumL s.data.toList = Dg.hex 16 (Dg.sumN s.data.toList)):=Lib.hid rfl
   clear hr
   generalize Dg.sumN s.data.toList = S at *
   obtain ⟨L,hL⟩:∃ L,Dg.sumL s.data.toList = L:=⟨_,rfl⟩
   have HL:=Lib.hid hL; rw [hL] at EL; clear hL
   have EQ':=EQ.out
   subst EQ'
   clear EQ
   go_wp2_with fail
   go_loop [3,7,8] (fun t v i=>∃ (k n:Nat) (u:List UInt8),i = .int .i64 k ∧ t = .int .u64 n ∧ v = .string ⟨u.toArray⟩ ∧ k ≤ 16 ∧ n < 18446744073709551616 ∧ Hid (u.length = k ∧ Dg.hex (16 - k) n ++ u = Dg.hex 16 st)) (fun _ _ i=>16 - (intOf i).toNat)
   case atStart=>exact ⟨0,st,[],rfl,rfl,rfl,by omega,SM.out,Lib.hid ⟨rfl,by simp⟩⟩
   case round =>
    obtain ⟨k,n,u,rfl,rfl,rfl,hk,hn,hu⟩:=hrel
    by_cases h16:k < 16
    ·have h16i:(k:Int) < 16:=by omega
     have DA:=hexd_at (n % 16) (Nat.mod_lt _ (by decide))
     have m1:(n:Int) % 16 = ((n % 16:Nat):Int):=by omega
     have m3:(n:Int) / 16 = ((n / 16:Nat):Int):=by omega
     have x5:IntKind.u64.wrap ((n / 16:Nat):Int) = ((n / 16:Nat):Int):=u64w (by omega) (by omega)
     have hq:n / 16 < 18446744073709551616:=by omega
     have hd:n % 16 < 16:=Nat.mod_lt _ (by decide)
     have IV:Hid ((Dg.hexd (n % 16) :: u).length = k + 1 ∧ Dg.hex (16 - (k + 1)) (n / 16) ++ Dg.hexd (n % 16) :: u = Dg.hex 16 st):=Lib.hid ⟨by rw [List.length_cons,hu.out.1],by
      have h:=hu.out.2
      rw [show 16 - k = (16 - (k + 1)) + 1 by omega,Dg.hex,List.append_assoc] at h
      exact h⟩
     have lu:=hu.out.1
     generalize n % 16 = d at *
     generalize n / 16 = q at *
     have zz:(⟨#[48,49,50,51,52,53,54,55,56,57,97,98,99,100,101,102]⟩:ByteArray).size = 16:=rfl
     have x1:IntKind.u64.wrap ((d:Int) + 1) = (d:Int) + 1:=u64w (by omega) (by omega)
     have x2:((d:Int) + 1).toNat = d + 1:=by omega
     have x3:(d:Int) + 1 ≤ 16:=by omega
     have x4:(d:Int) ≤ (d:Int) + 1:=by omega
     have zv:=size_mk u
     have a1:∀ W:World,(Op.stringOp .add ⟨#[Dg.hexd d]⟩ ⟨u.toArray⟩).run Tryz.prog W = .ok (.string ⟨(Dg.hexd d :: u).toArray⟩) W:=fun W=>by
      rw [run_string_add_sum W _ _ (by rw [zv,show (⟨#[Dg.hexd d]⟩:ByteArray).size = 1 from rfl]; omega)]
      exact congrArg (fun b=>Result.ok (Value.string b) W) (mk_app [Dg.hexd d] u)
     clear hu
     go_wp2_with fail
     go_round
     case rel=>exact ⟨k + 1,q,Dg.hexd d :: u,by go_num,rfl,rfl,by omega,hq,IV⟩
     case measure=>simp [intOf]; omega
    ·have h16i:¬ (k:Int) < 16:=by omega
     have hk16:k = 16:=by omega
     subst hk16
     have EU:Hid (u = L):=Lib.hid (by rw [EL.out]; exact hu.out.2)
     clear hu
     go_wp2_with fail
     go_ret
     exact ⟨by rw [HL.out,EU.out]; rfl,rfl⟩
theorem rlist_any (A:Option Addr) (n c:Nat) (l:List ByteArray) (w:World) (hn:n = l.length) (hlen:l.length ≤ 40) (hs:∀ s ∈ l,s.size ≤ 20000) (h:Rd w A (l.map Value.string)) :
  Calls Tryz.prog 106 #[.slice A n c] w fun e w'=>e = .returned (.string ⟨(Dg.sumL (Dg.joined (bys l))).toArray⟩) ∧ Below w.heap.size w w':=by
 subst hn
 have JA:=Lib.hid (joined_any A _ c l w rfl hlen hs h)
 have JS:=joined_sizeL hs l.length (Nat.le_refl _)
 rw [List.take_length] at JS
 have z2:(Dg.joined (bys l)).length ≤ 1000000:=by omega
 have z3:(⟨(Dg.joined (bys l)).toArray⟩:ByteArray).size ≤ 1000000:=Nat.le_trans (Nat.le_of_eq (size_mk _)) z2
 have RSM:Hid (∀ u,Calls Tryz.prog 137 #[.string ⟨(Dg.joined (bys l)).toArray⟩] u fun e w'=>e = .returned (.string ⟨(Dg.sumL (Dg.joined (bys l))).toArray⟩) ∧ u = w'):=Lib.hid (fun u=>rsum_any ⟨(Dg.joined (bys l)).toArray⟩ u z3)
 clear h hs JS z2 z3
 generalize Dg.joined (bys l) = J at *
 generalize Dg.sumL J = D at *
 go_enter Tryz.func106, Tryz.ntmps106
 go_wp2_with fail
 refine JA.out.mono ?_
 rintro e w1 ⟨rfl,hb1⟩
 have B1:=Lib.hid hb1; clear hb1
 go_wp2_with fail
 refine (RSM.out _).mono ?_
 rintro e w2 ⟨rfl,rfl⟩
 go_wp2_with fail
 go_ret
 exact ⟨rfl,B1.out⟩
end Go.Proofs.YtniklmikdkjgiaaGreatDoor
namespace Go.Proofs.YtniklmikdkjgiaaGreatDoor
open Go.RowKit
end Go.Proofs.YtniklmikdkjgiaaGreatDoor
namespace Go.Proofs.YtniklmikdkjgiaaGreatDoor
open Go.RowKit
end Go.Proofs.YtniklmikdkjgiaaGreatDoor
namespace Go.Proofs.YtniklmikdkjgiaaGreatDoor
open Go.RowKit
end Go.Proofs.YtniklmikdkjgiaaGreatDoor
namespace Go.Proofs.YtniklmikdkjgiaaGreatDoor
open Go.RowKit
end Go.Proofs.YtniklmikdkjgiaaGreatDoor
namespace Go.Proofs.YtniklmikdkjgiaaGreatDoor
open Go.RowKit
end Go.Proofs.YtniklmikdkjgiaaGreatDoor
