/- WALK: SnapshotCollects. -/
import Derived.Test.YtfhgidbmeifflaaOF
import Derived.Deep.RegionHeld3
set_option linter.unusedSimpArgs false
set_option linter.unusedVariables false
namespace Go.Proofs.Ytfhgidbmeifflaa
open Go.RowKit Go.Maps Go.ChangeMaps Go.MapKept Go.WideShapes Go.WideMaps

def fW (S : Sh) : Nat → Tx → Value := fun r t => .string (mkB (readF S r t).1)
def fE (S : Sh) : Nat → Tx → Value := fun r t => .int .i64 ((readF S r t).2 : Int)
set_option maxHeartbeats 16000000 in
set_option maxRecDepth 100000 in
theorem collects_any (A : Option Addr) (n c : Nat) (l : List OpV) (key : Tx) (w : World) (hn : n = l.length) (hl : n ≤ 9223372036854775807) (h : Rd w A (opsC l)) (hi : ∀ o ∈ l, OpIn o) (hk : key.length ≤ 9223372036854775807) :
    Calls Try.prog 5 #[.slice A n c, .string (mkB key)] w fun e w' => e = .returned (.bool true) ∧ Below w.heap.size w w' := by
  have HI := Lib.hid hi
  have HN := Lib.hid hn
  have RA := Lib.hid h
  have HD := Lib.hid (head_any w)
  clear h hi hn
  have ml := mkB_len key
  go_enter Try.func5, Try.ntmps5
  go_wp2_with fail
  refine HD.out.mono ?_
  rintro e w1 ⟨rfl, hb1⟩
  have BW1 := Lib.hid hb1
  have C := Lib.hid (short_any A n c l 40 w1 HN.out hl (by omega) (RA.out.below hb1))
  clear hb1 HD
  go_wp2_with fail
  refine C.out.mono ?_
  rintro e w2 ⟨rfl, hb2⟩
  have BW := Lib.hid (BW1.out.trans (hb2.mono BW1.out.size))
  clear hb2 C BW1
  cases hs : shortB l 40
  · go_wp2_with fail
    go_ret
    exact ⟨rfl, BW.out⟩
  obtain ⟨l40, lok⟩ := shortB_len hs
  have LOK := Lib.hid lok
  have LL := Lib.hid l40
  clear lok l40
  by_cases x1 : (300 : Int) < (key.length : Int)
  · go_wp2_with fail
    go_ret
    exact ⟨rfl, BW.out⟩
  go_wp2_with fail
  refine (new_any w2).mono ?_
  rintro e w3 ⟨p, F0, rfl, hs3, hf3, hb3⟩
  have BW3 := Lib.hid (BW.out.trans (hb3.mono BW.out.size))
  have ST : Hid (∃ (S : Sh) (F : Nat → Prop), (Inv S 0 ∧ FG S ∧ Supp S (opK (l.take 0))) ∧ KeyI w.heap.size w3 p S F (.slice none 0 0) (opK (l.take 0))) := Lib.hid ⟨newS, F0, ⟨Inv.new, FG.new, Supp.new⟩, hs3, fun g hg => Nat.le_trans BW.out.size (hf3 g hg), World.ownsRow_nil _ _ _ _, fun g hg => by cases hg⟩
  clear hs3 hf3 hb3 BW
  go_wp2_with fail
  go_loopw [7, 8] (fun s7 s8 wr => ∃ k : Nat, k ≤ n ∧ s8 = .int .i64 (k : Int) ∧ Hid (∃ (S : Sh) (F : Nat → Prop), (Inv S k ∧ FG S ∧ Supp S (opK (l.take k))) ∧ KeyI w.heap.size wr p S F s7 (opK (l.take k))) ∧ Hid (Below w.heap.size w wr)) (fun _ i _ => n - (intOf i).toNat)
  case atStart => exact ⟨0, Nat.zero_le _, rfl, ST, BW3⟩
  case round =>
    clear ST BW3
    obtain ⟨k, hkn, rfl, SH, BW⟩ := hrel
    obtain ⟨S, F, ⟨hIN, hFG, hSU⟩, hKI⟩ := SH.out
    have KI := Lib.hid hKI
    have FGS := Lib.hid hFG
    have SU := Lib.hid hSU
    clear SH hKI hFG hSU
    have LLo := LL.out
    by_cases hlt : k < n
    · have hkl : k < l.length := by have := HN.out; omega
      have d1 : (k : Int) < (n : Int) := by omega
      have d2 : (0 : Int) ≤ (k : Int) := by omega
      obtain ⟨b, off, rfl, hbB, a0, a1, a2, a3, a4, a5⟩ := ops_at RA.out hkl
      have c0 : wr.cell? ⟨b, off + k * 6, none⟩ = _ := (World.cell?_of_block (a := ⟨b, off + k * 6, none⟩) (BW.out.block b hbB)).trans a0
      have c1 : wr.cell? ⟨b, off + k * 6 + 1, none⟩ = _ := (World.cell?_of_block (a := ⟨b, off + k * 6 + 1, none⟩) (BW.out.block b hbB)).trans a1
      have c2 : wr.cell? ⟨b, off + k * 6 + 2, none⟩ = _ := (World.cell?_of_block (a := ⟨b, off + k * 6 + 2, none⟩) (BW.out.block b hbB)).trans a2
      have c3 : wr.cell? ⟨b, off + k * 6 + 3, none⟩ = _ := (World.cell?_of_block (a := ⟨b, off + k * 6 + 3, none⟩) (BW.out.block b hbB)).trans a3
      have c4 : wr.cell? ⟨b, off + k * 6 + 4, none⟩ = _ := (World.cell?_of_block (a := ⟨b, off + k * 6 + 4, none⟩) (BW.out.block b hbB)).trans a4
      have c5 : wr.cell? ⟨b, off + k * 6 + 5, none⟩ = _ := (World.cell?_of_block (a := ⟨b, off + k * 6 + 5, none⟩) (BW.out.block b hbB)).trans a5
      have DO := do_any p F S l[k] k wr hIN (by omega) (LOK.out _ (List.getElem_mem hkl)) (HI.out _ (List.getElem_mem hkl)).1 (HI.out _ (List.getElem_mem hkl)).2 KI.out.sf
      have OT := Lib.hid (opK_take l hkl)
      have OL : (opK (l.take k)).length ≤ 80 := by rw [opK_len, List.length_take]; omega
      have I2 := Lib.hid (doF_inv hIN l[k])
      have FG2 := Lib.hid (FGS.out.step l[k])
      have SU2 := Lib.hid (supp_step SU.out l[k])
      unfold opAgg at DO
      have DOH := Lib.hid DO
      clear DO hIN FGS SU a0 a2 a4 a5
      generalize doF S l[k] = R at *
      generalize l[k].kind = q0 at *
      generalize l[k].key = q1 at *
      generalize l[k].value = q2 at *
      generalize l[k].other = q3 at *
      generalize l[k].second = q4 at *
      generalize l[k].n = q5 at *
      generalize hK : opK (l.take k) = KS at *
      clear hK
      go_wp2_with fail
      refine DOH.out.mono ?_
      rintro e w5 ⟨rfl, sp⟩
      obtain ⟨F5, hK5, b5⟩ := KI.out.step sp BW.out.size
      have K5 := Lib.hid hK5
      have BW5 := Lib.hid (BW.out.trans b5)
      have c1 : w5.cell? ⟨b, off + k * 6 + 1, none⟩ = some (.string (mkB q1)) := (World.cell?_of_block (a := ⟨b, off + k * 6 + 1, none⟩) (BW5.out.block b hbB)).trans a1
      have c3 : w5.cell? ⟨b, off + k * 6 + 3, none⟩ = some (.string (mkB q3)) := (World.cell?_of_block (a := ⟨b, off + k * 6 + 3, none⟩) (BW5.out.block b hbB)).trans a3
      clear sp hK5 b5 DOH KI BW a1 a3
      go_wp2_with fail
      have hb5 : b < w5.heap.size := Nat.lt_of_lt_of_le hbB BW5.out.size
      have K1 : ∀ w' : World, w'.heap[b]? = w5.heap[b]? → w'.cell? ⟨b, off + k * 6 + 1, none⟩ = some (.string (mkB q1)) := fun w' h => (World.cell?_of_block (a := ⟨b, off + k * 6 + 1, none⟩) h).trans c1
      have K3 : ∀ w' : World, w'.heap[b]? = w5.heap[b]? → w'.cell? ⟨b, off + k * 6 + 3, none⟩ = some (.string (mkB q3)) := fun w' h => (World.cell?_of_block (a := ⟨b, off + k * 6 + 3, none⟩) h).trans c3
      (refine wp_region_noPanic ?_; refine wp_region_held_drew (S := (fun w' : World => w'.heap[b]? = w5.heap[b]?)) (by kernel_rfl) ?_ (fun hHeld => ?_); exact rfl)
      (refine wpAnyH_take (i := 0) (oi := _) (v := ?_) rfl (by kernel_rfl) (by kernel_rfl) (by kernel_rfl) (fun _ _ _ h => h) (Or.inl ⟨?_, ?_⟩) (by assumption) ?_; rotate_left; (focus (first | rfl | (simp [Region.wanted, yielded]; done))); (focus (intro w hSw; (try dsimp only at hSw); go_simp; all_goals (with_reducible rfl))); try simp only [Act.put, List.getElem_toArray, List.getElem_cons_zero, List.getElem_cons_succ, List.setIfInBounds_toArray, List.set_cons_zero, List.set_cons_succ])
      (refine wpAnyH_take (i := 1) (oi := _) (v := ?_) rfl (by kernel_rfl) (by kernel_rfl) (by kernel_rfl) (fun _ _ _ h => h) (Or.inl ⟨?_, ?_⟩) (by assumption) ?_; rotate_left; (focus (first | rfl | (simp [Region.wanted, yielded]; done))); (focus (intro w hSw; (try dsimp only at hSw); go_simp; all_goals (with_reducible rfl))); try simp only [Act.put, List.getElem_toArray, List.getElem_cons_zero, List.getElem_cons_succ, List.setIfInBounds_toArray, List.set_cons_zero, List.set_cons_succ])
      (refine wpAnyH_take (i := 2) (oi := _) (v := ?_) rfl (by kernel_rfl) (by kernel_rfl) (by kernel_rfl) (fun _ _ _ h => h) (Or.inl ⟨?_, ?_⟩) (by assumption) ?_; rotate_left; (focus (first | rfl | (simp [Region.wanted, yielded]; done))); (focus (intro w hSw; (try dsimp only at hSw); go_simp; all_goals (with_reducible rfl))); try simp only [Act.put, List.getElem_toArray, List.getElem_cons_zero, List.getElem_cons_succ, List.setIfInBounds_toArray, List.set_cons_zero, List.set_cons_succ])
      (refine wpAnyH_take (i := 3) (oi := _) (v := ?_) rfl (by kernel_rfl) (by kernel_rfl) (by kernel_rfl) (fun _ _ _ h => h) (Or.inl ⟨?_, ?_⟩) (by assumption) ?_; rotate_left; (focus (first | rfl | (simp [Region.wanted, yielded]; done))); (focus (intro w hSw; (try dsimp only at hSw); go_simp; all_goals (with_reducible rfl))); try simp only [Act.put, List.getElem_toArray, List.getElem_cons_zero, List.getElem_cons_succ, List.setIfInBounds_toArray, List.set_cons_zero, List.set_cons_succ])
      (refine wpAnyH_take (i := 4) (oi := _) (v := ?_) rfl (by kernel_rfl) (by kernel_rfl) (by kernel_rfl) (fun _ _ _ h => h) (Or.inl ⟨?_, ?_⟩) (by assumption) ?_; rotate_left; (focus (first | rfl | (simp [Region.wanted, yielded]; done))); (focus (intro w hSw; (try dsimp only at hSw); go_simp; all_goals (with_reducible rfl))); try simp only [Act.put, List.getElem_toArray, List.getElem_cons_zero, List.getElem_cons_succ, List.setIfInBounds_toArray, List.set_cons_zero, List.set_cons_succ])
      (refine wpAnyH_take (i := 5) (oi := _) (v := ?_) rfl (by kernel_rfl) (by kernel_rfl) (by kernel_rfl) (fun _ _ _ h => h) (Or.inl ⟨?_, ?_⟩) (by assumption) ?_; rotate_left; (focus (first | rfl | (simp [Region.wanted, yielded]; done))); (focus (intro w hSw; (try dsimp only at hSw); go_simp; all_goals (with_reducible rfl))); try simp only [Act.put, List.getElem_toArray, List.getElem_cons_zero, List.getElem_cons_succ, List.setIfInBounds_toArray, List.set_cons_zero, List.set_cons_succ])
      (refine wpAnyH_take (i := 6) (oi := _) (v := ?_) rfl (by kernel_rfl) (by kernel_rfl) (by kernel_rfl) (fun _ _ _ h => h) (Or.inl ⟨?_, ?_⟩) (by assumption) ?_; rotate_left; (focus (first | rfl | (simp [Region.wanted, yielded]; done))); (focus (intro w hSw; (try dsimp only at hSw); go_simp; all_goals (with_reducible rfl))); try simp only [Act.put, List.getElem_toArray, List.getElem_cons_zero, List.getElem_cons_succ, List.setIfInBounds_toArray, List.set_cons_zero, List.set_cons_succ])
      (refine wpAnyH_take (i := 7) (oi := _) (v := ?_) rfl (by kernel_rfl) (by kernel_rfl) (by kernel_rfl) (fun _ _ _ h => h) (Or.inl ⟨?_, ?_⟩) (by assumption) ?_; rotate_left; (focus (first | rfl | (simp [Region.wanted, yielded]; done))); (focus (intro w hSw; (try dsimp only at hSw); go_simp; all_goals (with_reducible rfl))); try simp only [Act.put, List.getElem_toArray, List.getElem_cons_zero, List.getElem_cons_succ, List.setIfInBounds_toArray, List.set_cons_zero, List.set_cons_succ])
      (refine wpAnyH_take (i := 8) (oi := _) (v := ?_) rfl (by kernel_rfl) (by kernel_rfl) (by kernel_rfl) (fun _ _ _ h => h) (Or.inl ⟨?_, ?_⟩) (by assumption) ?_; rotate_left; (focus (first | rfl | (simp [Region.wanted, yielded]; done))); (focus (intro w hSw; (try dsimp only at hSw); go_simp; all_goals (with_reducible rfl))); try simp only [Act.put, List.getElem_toArray, List.getElem_cons_zero, List.getElem_cons_succ, List.setIfInBounds_toArray, List.set_cons_zero, List.set_cons_succ])
      (refine wpAnyH_take (i := 9) (oi := _) (v := ?_) rfl (by kernel_rfl) (by kernel_rfl) (by kernel_rfl) (fun _ _ _ h => h) (Or.inl ⟨?_, ?_⟩) (by assumption) ?_; rotate_left; (focus (first | rfl | (simp [Region.wanted, yielded]; done))); (focus (intro w hSw; (try dsimp only at hSw); go_simp; all_goals (with_reducible rfl))); try simp only [Act.put, List.getElem_toArray, List.getElem_cons_zero, List.getElem_cons_succ, List.setIfInBounds_toArray, List.set_cons_zero, List.set_cons_succ])
      (refine wpAnyH_take (i := 10) (oi := _) (v := ?_) rfl (by kernel_rfl) (by kernel_rfl) (by kernel_rfl) (fun _ _ _ h => h) (Or.inl ⟨?_, ?_⟩) (by assumption) ?_; rotate_left; (focus (first | rfl | (simp [Region.wanted, yielded]; done))); (focus (intro w hSw; (try dsimp only at hSw); go_simp; all_goals (with_reducible rfl))); try simp only [Act.put, List.getElem_toArray, List.getElem_cons_zero, List.getElem_cons_succ, List.setIfInBounds_toArray, List.set_cons_zero, List.set_cons_succ])
      (refine wpAnyH_ready (rs := [11]) (by kernel_rfl) (by simp) ?_; refine AllReadyH.cons (o := _) rfl (fun K hK => ?_) AllReadyH.nil; go_simp)
      (refine hK.out _ _ (alloc_old _ _ hb5) (fun hHeld2 => ?_); clear hK K hHeld; have hHeld := hHeld2; clear hHeld2; try simp only [Act.put, List.getElem_toArray, List.getElem_cons_zero, List.getElem_cons_succ, List.setIfInBounds_toArray, List.set_cons_zero, List.set_cons_succ])
      (refine wpAnyH_ready (rs := [12]) (by kernel_rfl) (by simp) ?_; refine AllReadyH.cons (o := _) rfl (fun K hK => ?_) AllReadyH.nil)
      refine step_app2v rfl (.tmp 49) (.tmp 60) 41 rfl Try.underlying41 info_str rfl w.heap.size _ KS.length (kv KS) w5.drew _ rfl ?_ rfl rfl rfl (own_bel K5.out.kr (by exact ⟨rfl, rfl, rfl, Nat.le_refl _, fun _ _ => rfl⟩)) BW5.out.size (by omega) (by omega) ?_
      · intro y hy
        simp at hy
        rcases hy with rfl | rfl <;> rfl
      intro g' c' u1 hown hg1 hloc
      have e2 : (KS ++ [q1, q3]).length = KS.length + 2 := by simp
      have K6 : KeyI w.heap.size u1 p R.1 F5 (.slice (some ⟨g', 0, none⟩) (KS.length + 2) c') (KS ++ [q1, q3]) := K5.out.grow (by rw [e2, kv_app]; exact hown) ⟨hg1.os, hg1.tape, hg1.output, hg1.size, hg1.block⟩ (fun g hg => by cases hg; exact hloc)
      have BW6 := Lib.hid (BW5.out.trans ⟨hg1.os, hg1.tape, hg1.output, hg1.size, fun g hg => hg1.block g (Nat.lt_of_lt_of_le hg BW5.out.size) (fun e => by have := (K5.out.kr.lt g e.symm).1; omega)⟩)
      have S1 : u1.heap[b]? = w5.heap[b]? := hg1.block b hb5 (fun e => by have := (K5.out.kr.lt b e.symm).1; omega)
      have KH6 := Lib.hid K6
      clear hown hg1 hloc K6 e2
      (refine hK.out _ _ S1 (fun hHeld2 => ?_); clear hK K hHeld; have hHeld := hHeld2; clear hHeld2; try simp only [Act.put, List.getElem_toArray, List.getElem_cons_zero, List.getElem_cons_succ, List.setIfInBounds_toArray, List.set_cons_zero, List.set_cons_succ])
      (refine wpAnyH_take (i := 13) (oi := _) (v := ?_) rfl (by kernel_rfl) (by kernel_rfl) (by kernel_rfl) (fun _ _ _ h => h) (Or.inl ⟨?_, ?_⟩) (by assumption) ?_; rotate_left; (focus (first | rfl | (simp [Region.wanted, yielded]; done))); (focus (intro w hSw; (try dsimp only at hSw); go_simp; all_goals (with_reducible rfl))); try simp only [Act.put, List.getElem_toArray, List.getElem_cons_zero, List.getElem_cons_succ, List.setIfInBounds_toArray, List.set_cons_zero, List.set_cons_succ])
      (refine wpAnyH_done (by kernel_rfl) ?_ _; refine NoPanic.normal ?_)
      clear hHeld K1 K3
      go_wp2_with fail
      exact ⟨⟨k + 1, by omega, by go_num, by rw [OT.out]; exact Lib.hid ⟨R.1, F5, ⟨I2.out, FG2.out, SU2.out⟩, KH6.out⟩, BW6⟩, by simp [intOf]; omega⟩
    · have d1 : ¬ (k : Int) < (n : Int) := by omega
      have hkl : l.length ≤ k := by have := HN.out; omega
      rw [List.take_of_length_le hkl] at KI SU
      have IN : Inv S 40 := hIN.mono (by have := HN.out; omega)
      have KL : (opK l).length ≤ 80 := by rw [opK_len]; omega
      have KB := Lib.hid (fun t (ht : t ∈ opK l ++ [key]) => show t.length ≤ 300 from (List.mem_append.1 ht).elim (fun h => opK_le LOK.out t h) (fun h => by rw [List.mem_singleton.1 h]; omega))
      generalize opK l = K0 at *
      clear hIN
      go_wp2_with (at_builtin; refine wpList_app1v rfl (.tmp 62) (.tmp 64) 41 rfl Try.underlying41 info_str rfl w.heap.size _ K0.length (kv K0) _ rfl rfl rfl rfl KI.out.kr BW.out.size (by omega) (by omega) ?_; intro g7 c7 w4 ho7 hg7 hl7 hb7)
      have e1 : (K0 ++ [key]).length = K0.length + 1 := by simp
      have K7 : KeyI w.heap.size w4 p S F (.slice (some ⟨g7, 0, none⟩) (K0.length + 1) c7) (K0 ++ [key]) := KI.out.grow (by rw [e1, kv_app]; exact ho7) hg7 (fun g hg => by cases hg; exact hl7)
      have SU7 : Supp S (K0 ++ [key]) := fun u hu => List.mem_append.2 (.inl (SU.out u hu))
      have BW4 := Lib.hid (BW.out.trans hb7)
      clear ho7 hg7 hl7 hb7 KI SU BW
      generalize K0 ++ [key] = K at *
      generalize hL : K0.length + 1 = L at *
      have HL := Lib.hid e1
      have L81 : L ≤ 81 := by omega
      have L1 : 1 ≤ L := by omega
      have OP := Lib.hid (open_any p F S w4 (IN.sh (by omega)) IN.nrd K7.sf)
      have K7H := Lib.hid K7
      have IO := IN.open_
      have FGO := Lib.hid FGS.out.open_
      have SUO : Hid (Supp (openF S).1 K) := Lib.hid (fun u hu => SU7 u (by rw [(openF_keys S).1] at hu; exact hu))
      have OF := Lib.hid (openF_fresh S)
      have SOP := IN.opn
      clear K7 SU7 FGS e1 hL KL
      generalize openF S = R at *
      go_wp2_with fail
      refine OP.out.mono ?_
      rintro e w5 ⟨rfl, sp⟩
      obtain ⟨F5, hK5, b5⟩ := K7H.out.step sp BW4.out.size
      have K5 := Lib.hid hK5
      have BW5 := Lib.hid (BW4.out.trans b5)
      clear sp hK5 b5 OP K7H BW4
      have F41 : R.2.1 ≤ 41 := by rcases OF.out with ⟨_, h, _⟩ | ⟨_, h⟩ <;> omega
      have OF2 : Hid (R.2.1 = 0 ∨ (R.2.1 = R.1.opn ∧ R.1.rd R.2.1 = some R.1.clk)) := Lib.hid (by
        rcases OF.out with ⟨_, h1, h2, h3⟩ | ⟨_, h⟩
        · exact .inr ⟨h1.trans h2.symm, by rw [h1]; exact h3⟩
        · exact .inl h)
      clear OF SOP
      generalize R.1 = T at *
      generalize R.2.1 = fresh at *
      generalize R.2.2 = code at *
      have TI := IO.sh (by omega)
      obtain ⟨r0, hr0⟩ : ∃ r0, r0 = w5.heap.size := ⟨_, rfl⟩
      have HR := Lib.hid hr0
      have ST : Hid (R2 w5 r0 (.slice none 0 0) (.slice none 0 0) (0 * L) (fl K (fW T) (0 * L)) (fl K (fE T) (0 * L))) := Lib.hid (by rw [Nat.zero_mul]; exact R2.start _ _)
      have WR0 := Lib.hid (show Below r0 w5 w5 from Below.refl _ _)
      clear hr0
      go_wp2_with fail
      go_loopw [11, 12, 13] (fun s11 s12 s13 wx => ∃ r : Nat, r ≤ fresh + 1 ∧ s13 = .int .i64 (r : Int) ∧ Hid (R2 wx r0 s11 s12 (r * L) (fl K (fW T) (r * L)) (fl K (fE T) (r * L))) ∧ Hid (Below r0 w5 wx)) (fun _ _ i _ => fresh + 1 - (intOf i).toNat)
      case atStart => exact ⟨0, by omega, rfl, ST, WR0⟩
      case round =>
        clear ST WR0
        obtain ⟨r, hrf, rfl, RR, BX⟩ := hrel
        by_cases hlt2 : r ≤ fresh
        · have d3 : (r : Int) ≤ (fresh : Int) := by omega
          have hrL : r * L ≤ 41 * 81 := Nat.mul_le_mul (by omega) L81
          have RR0 : Hid (R2 wr r0 u11 u12 (r * L + 0) (fl K (fW T) (r * L + 0)) (fl K (fE T) (r * L + 0))) := RR
          clear RR
          go_wp2_with fail
          go_loopw [11, 12, 14] (fun s11 s12 s14 wx => ∃ i : Nat, i ≤ L ∧ s14 = .int .i64 (i : Int) ∧ Hid (R2 wx r0 s11 s12 (r * L + i) (fl K (fW T) (r * L + i)) (fl K (fE T) (r * L + i))) ∧ Hid (Below r0 w5 wx)) (fun _ _ i _ => L - (intOf i).toNat)
          case atStart => exact ⟨0, by omega, rfl, RR0, BX⟩
          case round =>
            clear RR0 BX
            obtain ⟨i, hiL, rfl, RR, BX⟩ := hrel
            by_cases hlt3 : i < L
            · have d4 : (i : Int) < (L : Int) := by omega
              have d5 : (0 : Int) ≤ (i : Int) := by omega
              have hiK : i < K.length := by rw [HL.out]; exact hlt3
              have bx : Below w5.heap.size w5 wr := by rw [← HR.out]; exact BX.out
              have KR := own_bel K5.out.kr bx
              have ci : wr.cell? ⟨g7, i, none⟩ = some (.string (mkB K[i])) := by
                have h1 : wr.ownsRow w.heap.size 9 1 (.slice (some ⟨g7, 0, none⟩) L c7) L (kv K) := by have := KR; rwa [HL.out] at this
                rw [h1.cellAt _ (by omega)]; exact kv_get hiK
              have C0 := read_any p F5 T r (mkB K[i]) wr TI (K5.out.sf.below bx) (by omega) (by rw [mkB_len]; have := KB.out _ (List.getElem_mem hiK); omega)
              unfold ReadSaid at C0
              rw [mkB_list] at C0
              have C := Lib.hid C0
              have XS := Lib.hid (fl_succ K (fW T) (r := r) hiK)
              have YS := Lib.hid (fl_succ K (fE T) (r := r) hiK)
              rw [HL.out] at XS YS
              have VW : Hid (fW T r K[i] = .string (mkB (readF T r K[i]).1)) := Lib.hid rfl
              have VE : Hid (fE T r K[i] = .int .i64 ((readF T r K[i]).2 : Int)) := Lib.hid rfl
              clear C0 bx KR
              generalize readF T r K[i] = Q at *
              generalize fW T r K[i] = xw at *
              generalize fE T r K[i] = xe at *
              generalize fl K (fW T) (r * L + i) = X0 at *
              generalize fl K (fE T) (r * L + i) = Y0 at *
              generalize K[i] = kk at *
              generalize hm : r * L + i = m at *
              have hm2 : m ≤ 3402 := by omega
              have HM := Lib.hid hm
              clear hm hrL
              go_wp2_with fail
              refine C.out.mono ?_
              rintro e w6 ⟨rfl, b6⟩
              have R6 := Lib.hid (RR.out.below b6)
              have rz : r0 ≤ wr.heap.size := Nat.le_trans (by rw [HR.out]; exact Nat.le_refl _) BX.out.size
              have BX6 := Lib.hid (BX.out.trans (b6.mono rz))
              have rz6 : r0 ≤ w6.heap.size := Nat.le_trans rz b6.size
              clear b6 RR BX C
              go_wp2_with (at_builtin; first
                | (refine wpList_app1v rfl (.tmp 92) (.tmp 94) 41 rfl Try.underlying41 info_str rfl r0 _ m X0 _ rfl rfl rfl rfl R6.out.oa rz6 (by omega) (by omega) ?_; intro g8 c8 w7 ho8 hg8 hl8 hb8)
                | (refine wpList_app1v rfl (.tmp 96) (.tmp 98) 42 rfl Try.underlying42 info_err rfl r0 _ m Y0 _ rfl rfl rfl rfl (R6.out.first ho8 hg8 (fun g hg => by cases hg; exact hl8)).1 (Nat.le_trans rz6 hg8.size) (by omega) (by omega) ?_; intro g9 c9 w8 ho9 hg9 hl9 hb9))
              have Z7 := R6.out.first ho8 hg8 (fun g hg => by cases hg; exact hl8)
              have Z8 := R2.second ho8 Z7.2 ho9 hg9 (fun g hg => by cases hg; exact hl9)
              rw [← VW.out, ← VE.out] at Z8
              rw [← XS.out, ← YS.out] at Z8
              have em : r * L + (i + 1) = m + 1 := by have := HM.out; omega
              exact ⟨⟨i + 1, by omega, by go_num, by rw [em]; exact Lib.hid Z8, Lib.hid (BX6.out.trans (hb8.trans hb9))⟩, by simp [intOf]; omega⟩
            · have d4 : ¬ (i : Int) < (L : Int) := by omega
              obtain rfl : i = L := by omega
              rw [← Nat.succ_mul] at RR
              go_wp2_with fail
              exact ⟨⟨r + 1, by omega, by go_num, RR, BX⟩, by simp [intOf]; omega⟩
        · have d3 : ¬ (r : Int) ≤ (fresh : Int) := by omega
          obtain rfl : r = fresh + 1 := by omega
          have hmm : (fresh + 1) * L ≤ 42 * 81 := Nat.mul_le_mul (by omega) L81
          have hm0 : 0 < (fresh + 1) * L := Nat.mul_pos (by omega) L1
          obtain ⟨g8, cp8, rfl, -, gl8⟩ := RR.out.oa.form hm0
          obtain ⟨g9, cp9, rfl, -, gl9⟩ := RR.out.ob.form hm0
          have bx : Below w5.heap.size w5 wr := by rw [← HR.out]; exact BX.out
          have sT := K5.out.sf.below bx
          have krT := own_bel K5.out.kr bx
          have BWr := Lib.hid (BW5.out.trans (bx.mono BW5.out.size))
          have g7l : g7 < r0 := by rw [HR.out]; exact (K5.out.kr.lt g7 rfl).2
          have rz0 : r0 ≤ wr.heap.size := by rw [HR.out]; exact bx.size
          obtain ⟨P, hP⟩ : ∃ P : Nat → Prop, P = fun g => w.heap.size ≤ g ∧ ((g < r0 ∧ g ≠ g7) ∨ wr.heap.size ≤ g) := ⟨_, rfl⟩
          have PF : Hid (∀ g, F5 g → P g) := Lib.hid (fun g hg => by rw [hP]; exact ⟨K5.out.bf g hg, .inl ⟨by rw [HR.out]; exact K5.out.sf.lt g hg, fun e => K5.out.ds g (by rw [e]; rfl) hg⟩⟩)
          have PZ : Hid (∀ (u : World), wr.heap.size ≤ u.heap.size → ∀ g, u.heap.size ≤ g → P g) := Lib.hid (fun u hu g hg => by rw [hP]; exact ⟨Nat.le_trans BWr.out.size (Nat.le_trans hu hg), .inr (Nat.le_trans hu hg)⟩)
          have PB : Hid (∀ (a b : World), w.heap.size ≤ a.heap.size → But P a b → Below w.heap.size a b) := Lib.hid (fun a b ha hb => hb.below ha (fun g hg => by rw [hP] at hg; exact hg.1))
          have PB1 : Hid (∀ g, P g → w.heap.size ≤ g) := Lib.hid (fun g hg => by rw [hP] at hg; exact hg.1)
          have PR : Hid (∀ (a b : World), R2 a r0 (.slice (some ⟨g8, 0, none⟩) ((fresh + 1) * L) cp8) (.slice (some ⟨g9, 0, none⟩) ((fresh + 1) * L) cp9) ((fresh + 1) * L) (fl K (fW T) ((fresh + 1) * L)) (fl K (fE T) ((fresh + 1) * L)) → But P a b → R2 b r0 (.slice (some ⟨g8, 0, none⟩) ((fresh + 1) * L) cp8) (.slice (some ⟨g9, 0, none⟩) ((fresh + 1) * L) cp9) ((fresh + 1) * L) (fl K (fW T) ((fresh + 1) * L)) (fl K (fE T) ((fresh + 1) * L))) := Lib.hid (fun a b h1 h2 =>
            h1.butz (z := wr.heap.size) (fun g hg => by cases hg; exact gl8) (fun g hg => by cases hg; exact gl9) h2 (fun g hg => by rw [hP] at hg; exact hg.2.imp (fun e => e.1) id))
          have PK : Hid (∀ (a b : World), a.ownsRow w.heap.size 9 1 (.slice (some ⟨g7, 0, none⟩) L c7) K.length (kv K) → But P a b → b.ownsRow w.heap.size 9 1 (.slice (some ⟨g7, 0, none⟩) L c7) K.length (kv K)) := Lib.hid (fun a b h1 h2 => own_but h1 h2 (fun g hg hp => by
            have hg : some g7 = some g := hg
            injection hg with hg
            rw [hP] at hp
            rcases hp.2 with ⟨_, e⟩ | e
            · exact e hg.symm
            · omega))
          have KR := Lib.hid krT
          have CR := Lib.hid (fun r t => collects_read IO r t)
          have TT := Lib.hid (times_some IO)
          have TW := Lib.hid (fun b hb => collects_twice IO (times_some IO) (b := b) hb)
          have IC := IO.collect (timesOf T)
          have FC := Lib.hid (FGO.out.collect (timesOf T))
          have SC : Hid (Supp (collectF T (timesOf T)) K) := Lib.hid (fun u hu => SUO.out u (fun e => hu (by show Sn.colls (T.keys u) _ = []; rw [e]; rfl)))
          have SUBL : Hid (∀ u, ((collectF T (timesOf T)).keys u).Sublist (T.keys u)) := Lib.hid (fun u => Sn.colls_sub _ _)
          have OF3 : Hid (fresh = 0 ∨ (fresh = (collectF T (timesOf T)).opn ∧ (collectF T (timesOf T)).rd fresh = some (collectF T (timesOf T)).clk)) := Lib.hid OF2.out
          have HLD := Lib.hid (held_any p F5 T wr TI sT)
          have S5 := Lib.hid sT
          have IOn := IO.nrd
          have g7z : g7 < wr.heap.size := by omega
          clear hP gl8 gl9 BX bx sT krT K5 BW5 g7l rz0 HR FGO SUO OF2
          generalize hT2 : collectF T (timesOf T) = T2 at *
          go_wp2_with fail
          refine HLD.out.mono ?_
          rintro e w6 ⟨n0, rfl, hh0, hn0, b6⟩
          have zz6 : wr.heap.size ≤ w6.heap.size := b6.size
          have R6 := Lib.hid (RR.out.below b6)
          have KR6 := Lib.hid (own_bel KR.out b6)
          have BW6 := Lib.hid (BWr.out.trans (b6.mono BWr.out.size))
          have CO := Lib.hid (collect_any p F5 T w6 TI IOn (S5.out.below b6))
          have HH0 := Lib.hid hh0
          clear b6 hh0 HLD RR KR BWr S5
          go_wp2_with fail
          refine CO.out.mono ?_
          rintro e w7 ⟨ts, m0, m1, ht, hm0', hm1, rfl, sp⟩
          obtain rfl : m0 = n0 := Sn.held_unique hm0' HH0.out
          rw [(times_eq ht).1, hT2] at hm1 sp
          have mle : m1 ≤ m0 := held_mono HH0.out hm1 SUBL.out
          obtain ⟨F7, s7, f7, b7⟩ := sp.cond PF.out (PZ.out w6 zz6)
          have zz7 : wr.heap.size ≤ w7.heap.size := Nat.le_trans zz6 b7.size
          have R7 := Lib.hid (PR.out _ _ R6.out b7)
          have KR7 := Lib.hid (PK.out _ _ KR6.out b7)
          have BW7 := Lib.hid (BW6.out.trans (PB.out _ _ BW6.out.size b7))
          have FH7 := Lib.hid f7
          have S7 := Lib.hid s7
          have I2 := IC.sh (by omega)
          have HLD := Lib.hid (held_any p F7 T2 w7 I2 s7)
          have HM1 := Lib.hid hm1
          have wr1 : IntKind.i64.wrap ((m0 : Int) - ((m0 : Int) - (m1 : Int))) = (m0 : Int) - ((m0 : Int) - (m1 : Int)) := IntWalk.i64_in _ (by omega)
          have wr2 : ¬ ((m0 : Int) - (m1 : Int) < 0) := by omega
          clear sp s7 f7 b7 ht hm0' hm1 CO R6 KR6 BW6 PF
          go_wp2_with fail
          refine HLD.out.mono ?_
          rintro e w8 ⟨n1, rfl, hh1, hn1, b8⟩
          obtain rfl : n1 = m1 := Sn.held_unique hh1 HM1.out
          have wr3 : ((n1 : Int) != (m0 : Int) - ((m0 : Int) - (n1 : Int))) = false := by simp; omega
          have zz8 : wr.heap.size ≤ w8.heap.size := Nat.le_trans zz7 b8.size
          have R8 := Lib.hid (R7.out.below b8)
          have KR8 := Lib.hid (own_bel KR7.out b8)
          have BW8 := Lib.hid (BW7.out.trans (b8.mono BW7.out.size))
          have ICn := IC.nrd
          have CO := Lib.hid (collect_any p F7 T2 w8 I2 ICn (S7.out.below b8))
          clear b8 hh1 HLD R7 KR7 BW7 S7
          go_wp2_with fail
          refine CO.out.mono ?_
          rintro e w9 ⟨ts2, l0, l1, ht2, hl0, hl1, rfl, sp⟩
          rw [TW.out ts2 ht2] at hl1 sp
          obtain rfl : l0 = n1 := Sn.held_unique hl0 HM1.out
          obtain rfl : l1 = l0 := Sn.held_unique hl1 hl0
          obtain ⟨F9, s9, f9, b9⟩ := sp.cond FH7.out (PZ.out w8 zz8)
          have zz9 : wr.heap.size ≤ w9.heap.size := Nat.le_trans zz8 b9.size
          have R9 := Lib.hid (PR.out _ _ R8.out b9)
          have KR9 := Lib.hid (PK.out _ _ KR8.out b9)
          have BW9 := Lib.hid (BW8.out.trans (PB.out _ _ BW8.out.size b9))
          have S9 := Lib.hid s9
          have FB9 : Hid (∀ g, F9 g → w.heap.size ≤ g) := Lib.hid (fun g hg => PB1.out g (f9 g hg))
          have FL9 := Lib.hid s9.lt
          have h2 : ∀ u : World, (Instr.makeMap 43 none).run Try.prog u = .ok (.map (some u.heap.size)) (u.alloc (.map #[] 0)) := fun u => run_makeMap _ _
          have md := MapAt.made w9 Try.prog 9
          rw [boolS_none] at md
          have ST : Hid (∃ D, (SetI (w9.alloc (.map #[] 0)) w9.heap.size D ∧ D.length ≤ 0 * L) ∧ ∀ t, t ∈ D ↔ (0 = fresh + 1 ∧ t ∈ K ∧ (readF T2 fresh t).2 = 0)) := Lib.hid ⟨[], ⟨⟨md, List.nodup_nil⟩, by simp⟩, fun t => ⟨fun h => (by cases h), fun h => (by omega)⟩⟩
          have BX9 : Hid (Below w9.heap.size w9 (w9.alloc (.map #[] 0))) := Lib.hid ((Below.refl _ _).alloc (Nat.le_refl _) _)
          have g7l9 : g7 < w9.heap.size := by omega
          have bz9 : w.heap.size ≤ w9.heap.size := BW9.out.size
          clear sp s9 f9 b9 hl0 hl1 ht2 CO R8 KR8 BW8 PR PK TW FH7 md zz6 zz7 zz8 g7z wr1 wr2 HH0 HM1
          generalize hbt : w9.heap.size = bt at *
          go_wp2_with fail
          go_loopw [19, 21] (fun s19 s21 wx => ∃ r : Nat, r ≤ fresh + 1 ∧ s21 = .int .i64 (r : Int) ∧ s19 = .int .i64 ((r * L : Nat) : Int) ∧ Hid (∃ D, (SetI wx bt D ∧ D.length ≤ r * L) ∧ ∀ t, t ∈ D ↔ (r = fresh + 1 ∧ t ∈ K ∧ (readF T2 fresh t).2 = 0)) ∧ Hid (Below bt w9 wx)) (fun _ i _ => fresh + 1 - (intOf i).toNat)
          case atStart => exact ⟨0, by omega, rfl, by rw [Nat.zero_mul]; rfl, ST, BX9⟩
          case round =>
            clear ST BX9
            obtain ⟨r, hrf, rfl, rfl, DH, BX⟩ := hrel
            by_cases hlt4 : r ≤ fresh
            · have d3 : (r : Int) ≤ (fresh : Int) := by omega
              have hrL : r * L ≤ 41 * 81 := Nat.mul_le_mul (by omega) L81
              have hrL2 : r * L + L ≤ (fresh + 1) * L := by rw [← Nat.succ_mul]; exact Nat.mul_le_mul_right _ (by omega)
              have ST : Hid (∃ D, (SetI wr bt D ∧ D.length ≤ r * L + 0) ∧ ∀ t, t ∈ D ↔ (r = fresh ∧ t ∈ K.take 0 ∧ (readF T2 fresh t).2 = 0)) := Lib.hid (by
                obtain ⟨D, h1, h3⟩ := DH.out
                exact ⟨D, h1, fun t => (h3 t).trans ⟨fun h => (by omega), fun h => (by have := h.2.1; simp at this)⟩⟩)
              clear DH
              generalize hm : r * L = m at *
              have HM := Lib.hid hm
              clear hm
              go_wp2_with fail
              go_loopw [19, 22] (fun s19 s22 wx => ∃ i : Nat, i ≤ L ∧ s22 = .int .i64 (i : Int) ∧ s19 = .int .i64 ((m + i : Nat) : Int) ∧ Hid (∃ D, (SetI wx bt D ∧ D.length ≤ m + i) ∧ ∀ t, t ∈ D ↔ (r = fresh ∧ t ∈ K.take i ∧ (readF T2 fresh t).2 = 0)) ∧ Hid (Below bt w9 wx)) (fun _ i _ => L - (intOf i).toNat)
              case atStart => exact ⟨0, by omega, rfl, rfl, ST, BX⟩
              case round =>
                clear ST BX
                obtain ⟨i, hiL, rfl, rfl, DH, BX⟩ := hrel
                by_cases hlt5 : i < L
                · have d4 : (i : Int) < (L : Int) := by omega
                  have d5 : (0 : Int) ≤ (i : Int) := by omega
                  have d6 : ((m + i : Nat) : Int) < (((fresh + 1) * L : Nat) : Int) := by omega
                  have d7 : (0 : Int) ≤ ((m + i : Nat) : Int) := by omega
                  have hiK : i < K.length := by rw [HL.out]; exact hlt5
                  have bx : Below w9.heap.size w9 wr := by rw [hbt]; exact BX.out
                  have C0 := read_any p F9 T2 r (mkB K[i]) wr I2 (S9.out.below bx) (by omega) (by rw [mkB_len]; have := KB.out _ (List.getElem_mem hiK); omega)
                  unfold ReadSaid at C0
                  rw [mkB_list, CR.out r K[i]] at C0
                  have C := Lib.hid C0
                  have kl3 := KB.out _ (List.getElem_mem hiK)
                  have rows : ∀ u, Below bt w9 u → u.cell? ⟨g7, i, none⟩ = some (.string (mkB K[i])) ∧ u.cell? ⟨g8, m + i, none⟩ = some (.string (mkB (readF T r K[i]).1)) ∧ u.cell? ⟨g9, m + i, none⟩ = some (.int .i64 ((readF T r K[i]).2 : Int)) := fun u hu => by
                    have hu' : Below w9.heap.size w9 u := by rw [hbt]; exact hu
                    have h1 : u.ownsRow w.heap.size 9 1 (.slice (some ⟨g7, 0, none⟩) L c7) L (kv K) := by have := own_bel KR9.out hu'; rwa [HL.out] at this
                    have h2 := R9.out.below hu'
                    have e1 := fl_get K (fW T) (r := r) (i := i) (m := (fresh + 1) * L) hiK (by rw [HL.out, HM.out]; omega)
                    have e2 := fl_get K (fE T) (r := r) (i := i) (m := (fresh + 1) * L) hiK (by rw [HL.out, HM.out]; omega)
                    rw [HL.out, HM.out] at e1 e2
                    exact ⟨by rw [h1.cellAt _ (by omega)]; exact kv_get hiK, by rw [h2.oa.cellAt _ (by omega)]; exact e1, by rw [h2.ob.cellAt _ (by omega)]; exact e2⟩
                  have RW := Lib.hid rows
                  have TK := Lib.hid (List.take_succ_eq_append_getElem hiK)
                  have RF2 : Hid (r = fresh → ((readF T2 fresh K[i]).2 = 0 ↔ (readF T r K[i]).2 = 0)) := Lib.hid (fun e => by rw [← e, CR.out r K[i]])
                  have ci := (rows wr BX.out).1
                  clear C0 bx rows
                  generalize readF T r K[i] = Q at *
                  generalize K[i] = kk at *
                  go_wp2_with fail
                  refine C.out.mono ?_
                  rintro e u6 ⟨rfl, b6⟩
                  have BX6 := Lib.hid (BX.out.trans (b6.mono (by have := BX.out.size; omega)))
                  have DH6 : Hid (∃ D, (SetI u6 bt D ∧ D.length ≤ m + i) ∧ ∀ t, t ∈ D ↔ (r = fresh ∧ t ∈ K.take i ∧ (readF T2 fresh t).2 = 0)) := Lib.hid (by
                    obtain ⟨D, ⟨⟨h1, h2⟩, h3⟩, h4⟩ := DH.out
                    exact ⟨D, ⟨⟨h1.same (b6.block _ h1.lt), h2⟩, h3⟩, h4⟩)
                  obtain ⟨y1, y2, y3⟩ := RW.out u6 BX6.out
                  clear b6 C DH BX RW ci
                  by_cases hA : r = fresh ∧ Q.2 = 0
                  · obtain ⟨D, ⟨hS, hDl⟩, hD⟩ := DH6.out
                    obtain ⟨u7, hup, hS7, hg7⟩ := hS.put (t := kk) (by omega) (by omega)
                    have A1 : ((r : Int) == (fresh : Int)) = true := by simp; omega
                    have A2 : ((Q.2 : Int) == 0) = true := by simp; omega
                    have DN : Hid (∃ D, (SetI u7 bt D ∧ D.length ≤ m + (i + 1)) ∧ ∀ t, t ∈ D ↔ (r = fresh ∧ t ∈ K.take (i + 1) ∧ (readF T2 fresh t).2 = 0)) := Lib.hid (by
                      refine ⟨_, ⟨hS7, by
                        split
                        · omega
                        · rw [List.length_cons]; omega⟩, fun t => ?_⟩
                      have hm' : t ∈ (if kk ∈ D then D else kk :: D) ↔ t = kk ∨ t ∈ D := by
                        split
                        · rename_i hkD
                          exact ⟨.inr, fun h => h.elim (fun e => e ▸ hkD) id⟩
                        · exact List.mem_cons
                      rw [hm', hD t, TK.out]
                      constructor
                      · rintro (rfl | ⟨a, b, c⟩)
                        · exact ⟨hA.1, List.mem_append.2 (.inr (by simp)), (RF2.out hA.1).2 hA.2⟩
                        · exact ⟨a, List.mem_append.2 (.inl b), c⟩
                      · rintro ⟨a, b, c⟩
                        rcases List.mem_append.1 b with b | b
                        · exact .inr ⟨a, b, c⟩
                        · exact .inl (List.mem_singleton.1 b))
                    have BX7 := Lib.hid (BX6.out.trans ⟨hg7.os, hg7.tape, hg7.output, hg7.size, fun g hg => hg7.block g (by have := BX6.out.size; omega) (fun e => by injection e with e; omega)⟩)
                    clear hS hDl hD hS7 hg7 DH6 BX6 RF2 hA
                    go_wp2_with fail
                    exact ⟨⟨i + 1, by omega, by go_num, by go_num, DN, BX7⟩, by simp [intOf]; omega⟩
                  · have DN : Hid (∃ D, (SetI u6 bt D ∧ D.length ≤ m + (i + 1)) ∧ ∀ t, t ∈ D ↔ (r = fresh ∧ t ∈ K.take (i + 1) ∧ (readF T2 fresh t).2 = 0)) := Lib.hid (by
                      obtain ⟨D, ⟨h1, h2⟩, h3⟩ := DH6.out
                      refine ⟨D, ⟨h1, by omega⟩, fun t => (h3 t).trans ?_⟩
                      rw [TK.out]
                      constructor
                      · rintro ⟨a, b, c⟩
                        exact ⟨a, List.mem_append.2 (.inl b), c⟩
                      · rintro ⟨a, b, c⟩
                        rcases List.mem_append.1 b with b | b
                        · exact ⟨a, b, c⟩
                        · rw [List.mem_singleton.1 b] at c
                          exact absurd ⟨a, (RF2.out a).1 c⟩ hA)
                    clear DH6 RF2
                    cases A1 : ((r : Int) == (fresh : Int))
                    · go_wp2_with fail
                      exact ⟨⟨i + 1, by omega, by go_num, by go_num, DN, BX6⟩, by simp [intOf]; omega⟩
                    · have A2 : ((Q.2 : Int) == 0) = false := by
                        have h1 : r = fresh := by simp at A1; omega
                        have h2 : ¬ Q.2 = 0 := fun e => hA ⟨h1, e⟩
                        simp; exact h2
                      go_wp2_with fail
                      exact ⟨⟨i + 1, by omega, by go_num, by go_num, DN, BX6⟩, by simp [intOf]; omega⟩
                · have d4 : ¬ (i : Int) < (L : Int) := by omega
                  obtain rfl : i = L := by omega
                  have DN : Hid (∃ D, (SetI wr bt D ∧ D.length ≤ (r + 1) * i) ∧ ∀ t, t ∈ D ↔ (r + 1 = fresh + 1 ∧ t ∈ K ∧ (readF T2 fresh t).2 = 0)) := Lib.hid (by
                    obtain ⟨D, ⟨h1, h2⟩, h3⟩ := DH.out
                    refine ⟨D, ⟨h1, by rw [Nat.succ_mul, HM.out]; exact h2⟩, fun t => (h3 t).trans ?_⟩
                    rw [List.take_of_length_le (by rw [HL.out]; exact Nat.le_refl _)]
                    exact ⟨fun ⟨a, b, c⟩ => ⟨by omega, b, c⟩, fun ⟨a, b, c⟩ => ⟨by omega, b, c⟩⟩)
                  have em : m + i = (r + 1) * i := by rw [Nat.succ_mul, HM.out]
                  clear DH
                  go_wp2_with fail
                  exact ⟨⟨r + 1, by omega, by go_num, by rw [← em], DN, BX⟩, by simp [intOf]; omega⟩
            · obtain rfl : r = fresh + 1 := by omega
              have d3 : ¬ ((fresh + 1 : Nat) : Int) ≤ (fresh : Int) := by omega
              obtain ⟨D, ⟨hSI, -⟩, hD⟩ := DH.out
              have bx : Below w9.heap.size w9 wr := by rw [hbt]; exact BX.out
              have btz : bt < wr.heap.size := hSI.m.lt
              obtain ⟨P2, hP2⟩ : ∃ P2 : Nat → Prop, P2 = fun g => w.heap.size ≤ g ∧ (g < bt ∨ wr.heap.size ≤ g) := ⟨_, rfl⟩
              have BWr := Lib.hid (BW9.out.trans (bx.mono (by rw [hbt]; exact bz9)))
              have QB : Hid (∀ (b : World), But P2 wr b → Below w.heap.size wr b) := Lib.hid (fun b hb => hb.below BWr.out.size (fun g hg => by rw [hP2] at hg; exact hg.1))
              have QZ : Hid (∀ (u : World), wr.heap.size ≤ u.heap.size → ∀ g, u.heap.size ≤ g → P2 g) := Lib.hid (fun u hu g hg => by rw [hP2]; exact ⟨Nat.le_trans BWr.out.size (Nat.le_trans hu hg), .inr (Nat.le_trans hu hg)⟩)
              have QM : Hid (∀ (b : World), But P2 wr b → MapAt b Try.prog 9 bt (boolS D) D.length) := Lib.hid (fun b hb => hSI.m.same (hb.block bt btz (fun hp => by rw [hP2] at hp; rcases hp.2 with h | h <;> omega)))
              have IT2 : Inv T2 41 := IC
              have CL0 : Hid (∃ (S' : Sh) (F' : Nat → Prop), (Inv S' 41 ∧ S'.keys = T2.keys ∧ S'.clk = T2.clk ∧ ∀ i, S'.rd i = if 1 ≤ i ∧ i < 1 then none else T2.rd i) ∧ ShAt wr p F' S' ∧ ∀ g, F' g → P2 g) := Lib.hid ⟨T2, F9, ⟨IT2, rfl, rfl, fun i => by rw [if_neg (by omega)]⟩, S9.out.below bx, fun g hg => by rw [hP2]; exact ⟨FB9.out g hg, .inl (FL9.out g hg)⟩⟩
              have HD := Lib.hid hD
              have DND := Lib.hid hSI.nd
              obtain ⟨W10, hW10⟩ : ∃ W10, W10 = wr := ⟨_, rfl⟩
              subst hW10
              have BR0 := Lib.hid (But.refl P2 W10)
              clear hP2 bx DH BX hSI hD S9 KR9 R9 btz hbt FB9 FL9
              go_wp2_with fail
              go_loopw [25] (fun s25 wx => ∃ r : Nat, 1 ≤ r ∧ r ≤ fresh + 1 ∧ s25 = .int .i64 (r : Int) ∧ Hid (∃ (S' : Sh) (F' : Nat → Prop), (Inv S' 41 ∧ S'.keys = T2.keys ∧ S'.clk = T2.clk ∧ ∀ i, S'.rd i = if 1 ≤ i ∧ i < r then none else T2.rd i) ∧ ShAt wx p F' S' ∧ ∀ g, F' g → P2 g) ∧ Hid (But P2 W10 wx)) (fun i _ => fresh + 1 - (intOf i).toNat)
              case atStart => exact ⟨1, by omega, by omega, rfl, CL0, BR0⟩
              case round =>
                clear CL0 BR0
                obtain ⟨r, hr1, hrf6, rfl, CL, BQ⟩ := hrel
                obtain ⟨S', F', ⟨cI, cK, cC, cR⟩, cS, cF⟩ := CL.out
                clear CL
                by_cases hlt6 : r ≤ fresh
                · have d8 : (r : Int) ≤ (fresh : Int) := by omega
                  have C := Lib.hid (close_any p F' S' r wr cS (by omega))
                  obtain ⟨n1, n2, n3⟩ := close_step cR hr1
                  have CI := Lib.hid (cI.close r)
                  have N1 := Lib.hid n1
                  have N2 := Lib.hid (n2.trans cK)
                  have N3 := Lib.hid (n3.trans cC)
                  have CF := Lib.hid cF
                  clear cI cK cC cR cS cF n1 n2 n3
                  generalize closeF S' r = R3 at *
                  go_wp2_with fail
                  refine C.out.mono ?_
                  rintro e u6 ⟨rfl, sp⟩
                  obtain ⟨F6, s6, f6, b6⟩ := sp.cond CF.out (QZ.out wr BQ.out.size)
                  have CLn : Hid (∃ (S' : Sh) (F' : Nat → Prop), (Inv S' 41 ∧ S'.keys = T2.keys ∧ S'.clk = T2.clk ∧ ∀ i, S'.rd i = if 1 ≤ i ∧ i < r + 1 then none else T2.rd i) ∧ ShAt u6 p F' S' ∧ ∀ g, F' g → P2 g) := Lib.hid ⟨R3.1, F6, ⟨CI.out, N2.out, N3.out, N1.out⟩, s6, f6⟩
                  have BQ6 := Lib.hid (BQ.out.trans b6)
                  clear sp s6 f6 b6 C
                  go_wp2_with fail
                  exact ⟨⟨r + 1, by omega, by omega, by go_num, CLn, BQ6⟩, by simp [intOf]; omega⟩
                · have d8 : ¬ (r : Int) ≤ (fresh : Int) := by omega
                  obtain rfl : r = fresh + 1 := by omega
                  have CO := Lib.hid (collect_any p F' S' wr (cI.sh (by omega)) cI.nrd cS)
                  have CF := Lib.hid cF
                  have CK := Lib.hid cK
                  have CC := Lib.hid cC
                  have CRD := Lib.hid cR
                  have CI := Lib.hid cI
                  clear cK cC cR cS cF
                  go_wp2_with fail
                  refine CO.out.mono ?_
                  rintro e u6 ⟨ts3, q0, q1, ht3, hq0, hq1, rfl, sp⟩
                  obtain ⟨F6, s6, f6, b6⟩ := sp.cond CF.out (QZ.out wr BQ.out.size)
                  have BQ6 := Lib.hid (BQ.out.trans b6)
                  have BW6 := Lib.hid (BWr.out.trans (QB.out _ BQ6.out))
                  by_cases hf0 : fresh = 0
                  · have z0 : ((fresh : Int) == 0) = true := by simp; omega
                    clear sp s6 f6 b6 ht3 hq0 hq1 CO
                    go_wp2_with fail
                    go_ret
                    exact ⟨rfl, BW6.out⟩
                  · have z0 : ((fresh : Int) == 0) = false := by simp; omega
                    obtain ⟨o1, o2⟩ := OF3.out.resolve_left hf0
                    have htc : ∀ c, c ∈ ts3 ↔ c = T2.clk := fun c => by
                      rw [← CC.out]
                      constructor
                      · intro h
                        rcases ht3.sub c h with e | ⟨i, e⟩
                        · exact e
                        · rw [CRD.out i] at e
                          split at e
                          · cases e
                          · rename_i hni
                            exfalso
                            have hi := (IT2.rdc i c e).2
                            rcases Nat.eq_zero_or_pos i with e0 | e0
                            · rw [e0, FC.out.r0] at e; cases e
                            · omega
                      · rintro rfl; exact ht3.ck
                    have I6 := CI.out.collect ts3
                    have HLD := Lib.hid (held_any p F6 (collectF S' ts3) u6 (I6.sh (by omega)) s6)
                    have LAST : Hid (∀ nn, Sn.HeldIs (collectF S' ts3).keys nn → nn = D.length) := Lib.hid (fun nn hnn => by
                      refine collects_last IT2 FC.out SC.out o2 htc ?_ DND.out (fun t => (HD.out t).trans ⟨fun h => h.2, fun h => ⟨by first | trivial | rfl, h⟩⟩)
                      have : (collectF S' ts3).keys = fun u => Sn.colls (T2.keys u) ts3 := by unfold collectF; rw [CK.out]
                      rwa [this] at hnn)
                    clear sp s6 f6 b6 ht3 hq0 hq1 CO o1 o2 htc
                    go_wp2_with fail
                    refine HLD.out.mono ?_
                    rintro e u7 ⟨nn, rfl, hnn, hn9, b7⟩
                    obtain rfl := LAST.out nn hnn
                    have BQ7 : But P2 W10 u7 := BQ6.out.thenB (b7.mono BQ6.out.size)
                    have ln := (QM.out u7 BQ7).len Try.underlying43 3
                    have BW7 := Lib.hid (BWr.out.trans (QB.out _ BQ7))
                    clear hnn b7 BQ7 HLD
                    go_wp2_with fail
                    go_ret
                    exact ⟨by simp, BW7.out⟩
end Go.Proofs.Ytfhgidbmeifflaa
