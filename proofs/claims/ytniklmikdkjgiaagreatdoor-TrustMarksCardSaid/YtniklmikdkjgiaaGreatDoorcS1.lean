import Derived.Test.YtniklmikdkjgiaaGreatDoorcTP
import Derived.DeepKeys4
import Derived.WideKeyPair
import Derived.Shelf.Abstract
import Derived.Laws.BytesArg
set_option linter.all false
set_option maxHeartbeats 16000000
set_option maxRecDepth 100000
namespace Go.Proofs.YtniklmikdkjgiaaGreatDoor
open Go.RowKit
def fewW (x : WoV) : Bool := decide (x.keys.length ≤ 8) && (decide (x.mods.length ≤ 8) && x.keys.all fun s => decide (s.length ≤ 100))
theorem few30r_any (A : Option Addr) (n c : Nat) (l : List RV) (x : WoV) (w : World) (hn : n = l.length) (h : Rw w A l) (hx : WoIs w x) :
    Calls Tryz.prog 91 #[.slice A n c, woA x, .int .i64 14] w fun e w' => e = .returned (.bool (fewL (rcsC l) 14 && fewW x)) ∧ Below w.heap.size w w' := by
  obtain ⟨A1, c1, e1, hr1⟩ := hx.ks
  obtain ⟨A2, c2, e2, hr2⟩ := hx.ms
  unfold woA
  obtain ⟨V, hV⟩ : ∃ V, V = w.alloc (.cells (woL x).toArray 38) := ⟨_, rfl⟩
  obtain ⟨bw, hbw⟩ : ∃ bw, w.heap.size = bw := ⟨_, rfl⟩
  have BV : Below w.heap.size w V := by rw [hV]; exact (Below.refl _ _).alloc (Nat.le_refl _) _
  have XV : V.heap[bw]? = some (.cells (woL x).toArray 38 (0, 0)) := by rw [hV, ← hbw]; exact heap_alloc_new w _
  obtain ⟨nk, hnk⟩ : ∃ n, n = x.keys.length := ⟨_, rfl⟩
  obtain ⟨nm, hnm⟩ : ∃ n, n = x.mods.length := ⟨_, rfl⟩
  have M1 : ∀ u, OldB V u → u.cell? ⟨bw, 1, none⟩ = some (.slice A1 nk c1) := fun u hu => by
    have := load_block (i := 1) ((Below.block hu bw (lt_of_block XV)).trans XV) rfl
    rw [hnk, ← e1]; exact this
  have M2 : ∀ u, OldB V u → u.cell? ⟨bw, 2, none⟩ = some (.slice A2 nm c2) := fun u hu => by
    have := load_block (i := 2) ((Below.block hu bw (lt_of_block XV)).trans XV) rfl
    rw [hnm, ← e2]; exact this
  have FW0 := fewrs_any A n c l 14 V hn (by decide) (h.below BV)
  rw [show ((14 : Nat) : Int) = 14 from rfl] at FW0
  have FW := Lib.hid FW0
  have RK : Hid (∀ u, OldB V u → Rd u A1 (strsC x.keys)) := Lib.hid (fun u hu => (hr1.below BV).below hu)
  have BA : Hid (∀ u, OldB V u → Below w.heap.size w u) := Lib.hid (fun u hu => BV.trans (Below.mono hu BV.size))
  obtain ⟨R, hR⟩ : ∃ R, R = (fewL (rcsC l) 14 && fewW x) := ⟨_, rfl⟩
  have PM : Hid (R = (fewL (rcsC l) 14 && (decide (nk ≤ 8) && (decide (nm ≤ 8) && (x.keys.drop 0).all fun s => decide (s.length ≤ 100))))) := Lib.hid (by rw [hR, hnk, hnm]; rfl)
  have NK := Lib.hid hnk
  have X0 := Lib.hid hV
  have X1 := Lib.hid hbw
  rw [← hR]
  generalize (woL x).toArray = xw at *
  generalize x.keys = ks at *
  generalize fewL (rcsC l) 14 = q at *
  clear h hx hn hV hbw BV XV hr1 hr2 e1 e2 hnk hnm FW0 hR
  go_enter Tryz.func91, Tryz.ntmps91
  go_upto_region 1 with fail
  rw [← X0.out, X1.out]
  clear X0 X1
  go_wp2_with fail
  (with_reducible refine FW.out.mono ?_)
  rintro e u1 ⟨rfl, b1⟩
  have O1 : OldB V u1 := b1
  have y1 := M1 u1 O1
  have y2 := M2 u1 O1
  have B1 := Lib.hid (BA.out u1 O1)
  clear b1 FW
  cases q
  · have PF : Hid (R = false) := Lib.hid (by rw [PM.out, Bool.false_and])
    clear PM M1 M2
    go_wp2_with fail
    go_ret
    exact ⟨by rw [PF.out]; rfl, B1.out⟩
  have PM := Lib.hid (PM.out.trans (Bool.true_and _))
  by_cases h1 : nk ≤ 8
  rotate_left
  · have g1 : (8 : Int) < (nk : Int) := by omega
    have g2 : decide ((8 : Int) < (nk : Int)) = true := decide_eq_true g1
    have PF : Hid (R = false) := Lib.hid (by rw [PM.out, decide_eq_false h1, Bool.false_and])
    clear PM M1 M2 h1
    go_wp2_with fail
    go_ret
    exact ⟨by rw [PF.out]; rfl, B1.out⟩
  have g1 : ¬ (8 : Int) < (nk : Int) := by omega
  have g2 : decide ((8 : Int) < (nk : Int)) = false := decide_eq_false g1
  have PM := Lib.hid (PM.out.trans (by rw [decide_eq_true h1, Bool.true_and]))
  by_cases h2 : nm ≤ 8
  rotate_left
  · have g3 : (8 : Int) < (nm : Int) := by omega
    have g4 : decide ((8 : Int) < (nm : Int)) = true := decide_eq_true g3
    have PF : Hid (R = false) := Lib.hid (by rw [PM.out, decide_eq_false h2, Bool.false_and])
    clear PM M1 M2 h2
    go_wp2_with fail
    go_ret
    exact ⟨by rw [PF.out]; rfl, B1.out⟩
  have g3 : ¬ (8 : Int) < (nm : Int) := by omega
  have g4 : decide ((8 : Int) < (nm : Int)) = false := decide_eq_false g3
  have HR0 : Hid (R = (ks.drop 0).all fun s => decide (s.length ≤ 100)) := Lib.hid (PM.out.trans (by rw [decide_eq_true h2, Bool.true_and]))
  have RK1 := Lib.hid (RK.out u1 O1)
  clear PM M1 M2 h2 RK
  go_wp2_with fail
  clear g1 g2 g3 g4 y2
  go_loopw [7] (fun s7 wr => ∃ k : Nat, k ≤ nk ∧ s7 = .int .i64 (k : Int) ∧ Hid (R = (ks.drop k).all fun s => decide (s.length ≤ 100)) ∧ Hid (wr = u1)) (fun i _ => nk - (intOf i).toNat)
  case atStart => exact ⟨0, Nat.zero_le _, rfl, HR0, Lib.hid rfl⟩
  case round =>
    clear HR0
    obtain ⟨k, hk, rfl, HR, EW⟩ := hrel
    rw [← EW.out] at y1
    by_cases hlt : k < nk
    rotate_left
    · have d1 : ¬ (k : Int) < (nk : Int) := by omega
      have RT : Hid (R = true) := Lib.hid (by rw [HR.out, List.drop_eq_nil_of_le (by rw [← NK.out]; omega)]; rfl)
      have FB : Hid (Below w.heap.size w wr) := Lib.hid (by rw [EW.out]; exact B1.out)
      clear HR
      go_wp2_with fail
      go_ret
      exact ⟨by rw [RT.out]; rfl, FB.out⟩
    have hkl : k < ks.length := by rw [← NK.out]; exact hlt
    have d1 : (k : Int) < (nk : Int) := by omega
    have d2 : (0 : Int) ≤ (k : Int) := by omega
    obtain ⟨b, off, rfl, hb, c0⟩ := strs_at RK1.out hkl
    rw [← EW.out] at c0
    have RS : Hid (R = (decide (ks[k].length ≤ 100) && (ks.drop (k + 1)).all fun s => decide (s.length ≤ 100))) := Lib.hid (by rw [HR.out, List.drop_eq_getElem_cons hkl, List.all_cons])
    have FB : Hid (Below w.heap.size w wr) := Lib.hid (by rw [EW.out]; exact B1.out)
    clear HR
    generalize ks[k] = s at *
    have ms := mkB_len s
    by_cases h3 : s.length ≤ 100
    · have g3 : ¬ (100 : Int) < (s.length : Int) := by omega
      have R2 : Hid (R = (ks.drop (k + 1)).all fun s => decide (s.length ≤ 100)) := Lib.hid (RS.out.trans (by rw [decide_eq_true h3, Bool.true_and]))
      clear RS h3
      go_wp2_with fail
      exact ⟨⟨k + 1, by omega, by go_num, R2, EW⟩, by simp [intOf]; omega⟩
    · have g3 : (100 : Int) < (s.length : Int) := by omega
      have PF : Hid (R = false) := Lib.hid (RS.out.trans (by rw [decide_eq_false h3, Bool.false_and]))
      clear RS h3
      go_wp2_with fail
      go_ret
      exact ⟨by rw [PF.out]; rfl, FB.out⟩
theorem few30_any (A : Option Addr) (n c : Nat) (l : List RV) (x : WoV) (w : World) (hn : n = l.length) (h : Rw w A l) (hx : WoIs w x) :
    Calls Tryz.prog 42 #[.slice A n c, woA x] w fun e w' => e = .returned (.bool (fewL (rcsC l) 14 && fewW x)) ∧ Below w.heap.size w w' := by
  obtain ⟨V, hV⟩ : ∃ V, V = w.alloc (.cells (woL x).toArray 38) := ⟨_, rfl⟩
  obtain ⟨bw, hbw⟩ : ∃ bw, w.heap.size = bw := ⟨_, rfl⟩
  have BV : Below w.heap.size w V := by rw [hV]; exact (Below.refl _ _).alloc (Nat.le_refl _) _
  have XV : V.heap[bw]? = some (.cells (woL x).toArray 38 (0, 0)) := by rw [hV, ← hbw]; exact heap_alloc_new w _
  have RV : Hid (V.rangeAt bw 0 (woL x)) := Lib.hid (by have := range_of_row XV; simpa using this)
  have FW := few30r_any A n c l x V hn (h.below BV) (hx.below BV)
  have SZ := mwo_szL x
  unfold woA at FW ⊢
  generalize woL x = xw at *
  have FH := Lib.hid FW
  have BH := Lib.hid BV
  have X0 := Lib.hid hV
  have X1 := Lib.hid hbw
  generalize (fewL (rcsC l) 14 && fewW x) = R at *
  clear FW BV XV hV hbw h hx hn
  go_enter Tryz.func42, Tryz.ntmps42
  go_upto_region 1 with fail
  rw [← X0.out, X1.out]
  go_wp2_with (refine wpList_load_mid rfl 38 (.tmp 3) rfl bw 0 rfl xw _ RV.out Tryz.underlying38 rfl SZ ?_)
  (with_reducible refine FH.out.mono ?_)
  rintro e u1 ⟨rfl, b1⟩
  have B1 := Lib.hid (BH.out.trans (b1.mono BH.out.size))
  clear b1 FH
  go_wp2_with fail
  go_ret
  exact ⟨rfl, B1.out⟩
def firstGo (t : Tx) : List RV → Nat → Int
  | [], _ => -1
  | r :: l, i => if r.kind = 1 ∧ idC r.c = t then (i : Int) else firstGo t l (i + 1)
theorem first30_any (A : Option Addr) (n c : Nat) (l : List RV) (t : Tx) (w : World) (hn : n = l.length) (h : Rs w A l) (ht : Tab w) :
    Calls Tryz.prog 45 #[.slice A n c, .string (mkB t)] w fun e w' => e = .returned (.int .i64 (firstGo t l 0)) ∧ Below w.heap.size w w' := by
  have hl : n ≤ 100000 := by rw [hn]; exact h.len
  have H := Lib.hid h
  have HN := Lib.hid hn
  have HT := Lib.hid ht
  obtain ⟨R, hR⟩ : ∃ R, R = firstGo t l 0 := ⟨_, rfl⟩
  have HR0 : Hid (R = firstGo t (l.drop 0) 0) := Lib.hid hR
  rw [← hR]
  have HB : Hid (Below w.heap.size w w) := Lib.hid (Below.refl _ _)
  have tt := mkB_tl t
  clear h hn ht hR
  go_enter Tryz.func45, Tryz.ntmps45
  go_wp2_with fail
  go_loopw [5] (fun s5 wr => ∃ k : Nat, k ≤ n ∧ s5 = .int .i64 (k : Int) ∧ Hid (R = firstGo t (l.drop k) k) ∧ Hid (Below w.heap.size w wr)) (fun i _ => n - (intOf i).toNat)
  case atStart => exact ⟨0, Nat.zero_le _, rfl, HR0, HB⟩
  case round =>
    clear HR0 HB
    obtain ⟨k, hkn, rfl, HR, BL⟩ := hrel
    by_cases hlt : k < n
    rotate_left
    · have d1 : ¬ (k : Int) < (n : Int) := by omega
      have RT : Hid (R = -1) := Lib.hid (by rw [HR.out, List.drop_eq_nil_of_le (by rw [← HN.out]; omega)]; rfl)
      clear HR
      go_wp2_with fail
      go_ret
      exact ⟨by rw [RT.out]; rfl, BL.out⟩
    have hkl : k < l.length := by rw [← HN.out]; exact hlt
    have d1 : (k : Int) < (n : Int) := by omega
    have d2 : (0 : Int) ≤ (k : Int) := by omega
    obtain ⟨b, off, rfl, hb, hc⟩ := rvs_at (H.out.rd.below BL.out) hkl
    have HC : Hid (wr.rangeAt b (off + k * 21) (rvL l[k])) := Lib.hid (fun j v hj => hc j v hj)
    have HI := H.out.is l[k] (List.getElem_mem hkl)
    have HS := H.out.sz l[k] (List.getElem_mem hkl)
    have RK : Hid (R = if l[k].kind = 1 ∧ idC l[k].c = t then (k : Int) else firstGo t (l.drop (k + 1)) (k + 1)) := Lib.hid (by rw [HR.out, List.drop_eq_getElem_cons hkl]; rfl)
    have IDC := Lib.hid (id_any l[k] wr (HI.below BL.out) HS (HT.out.keep BL.out))
    have ca : wr.cell? ⟨b, off + k * 21, none⟩ = some (.int .i64 l[k].kind) := by simpa using hc 0 _ rfl
    unfold rvA at IDC
    clear HR hc HI HS
    generalize l[k] = r at *
    have SZ := mrec_szL r
    by_cases h1 : r.kind = 1
    rotate_left
    · have e1 : (r.kind == 1) = false := by simpa using h1
      have R2 : Hid (R = firstGo t (l.drop (k + 1)) (k + 1)) := Lib.hid (RK.out.trans (if_neg (fun hh => h1 hh.1)))
      clear h1 RK IDC
      go_wp2_with fail
      exact ⟨⟨k + 1, by omega, by go_num, R2, BL⟩, by simp [intOf]; omega⟩
    have e1 : (r.kind == 1) = true := by rw [h1]; rfl
    have ti := mkB_tl (idC r.c)
    go_wp2_with (refine wpList_load_midG (by simp [Region.wanted, yielded]; done) 56 (.tmp 21) rfl b (off + k * 21) rfl (rvL r) _ HC.out Tryz.underlying56 rfl SZ ?_)
    (with_reducible refine IDC.out.mono ?_)
    rintro e u1 ⟨rfl, b1⟩
    have B1 := Lib.hid (BL.out.trans (b1.mono BL.out.size))
    clear b1 IDC HC SZ ca
    generalize idC r.c = it at *
    by_cases h2 : it = t
    · have e2 : (it == t) = true := by rw [h2]; simp
      have R2 : Hid (R = (k : Int)) := Lib.hid (RK.out.trans (if_pos ⟨h1, h2⟩))
      clear h1 h2 RK
      go_wp2_with fail
      go_ret
      exact ⟨by rw [R2.out]; rfl, B1.out⟩
    · have e2 : (it == t) = false := by simpa using h2
      have R2 : Hid (R = firstGo t (l.drop (k + 1)) (k + 1)) := Lib.hid (RK.out.trans (if_neg (fun hh => h2 hh.2)))
      clear h1 h2 RK
      go_wp2_with fail
      exact ⟨⟨k + 1, by omega, by go_num, R2, B1⟩, by simp [intOf]; omega⟩
end Go.Proofs.YtniklmikdkjgiaaGreatDoor
namespace Go.Proofs.YtniklmikdkjgiaaGreatDoor
open Go.RowKit
structure TS where
  au : List (Tx × Int)
  mr : List ((Int × Tx) × Bool)
  nd : List Int
def auG (au : List (Tx × Int)) (t : Tx) : Option Int := (au.find? fun p => decide (p.1 = t)).map (·.2)
def mkG (mr : List ((Int × Tx) × Bool)) (p : Int × Tx) : Option Bool := (mr.find? fun q => decide (q.1 = p)).map (·.2)
def tstep (rev : Tx → Bool) (s : TS) (r : RV) : TS :=
  if validR r.c then
    if r.kind = 1 then (match auG s.au (idC r.c) with | some _ => s | none => ⟨s.au ++ [(idC r.c, r.author)], s.mr, if rev (idC r.c) then s.nd ++ [r.author] else s.nd⟩)
    else if r.kind = 2 then ⟨s.au, ((r.author, r.target), r.yes && (auG s.au r.target).isSome) :: s.mr, s.nd⟩
    else s
  else s
def tsF (rev : Tx → Bool) (l : List RV) : TS := l.foldl (tstep rev) ⟨[], [], []⟩
def confT (rev : Tx → Bool) (s : TS) (n : Nat) (p a : Int) : Bool := s.au.any fun q => decide (q.2 = a) && decide (auG s.au q.1 = some a) && decide (mkG s.mr (p, q.1) = some true) && decide (a ≠ p) && decide (p < (n : Int)) && decide (a < (n : Int)) && !rev q.1
def needT (base : Int) (s : TS) (a : Int) : Int := base + ((s.nd.filter fun x => decide (x = a)).length : Int)
def revT (ms : List Int) (l : List RV) (t : Tx) : Bool := (entS ms l).any fun e => decide (e.id = t) && decide (e.st = 3)
def cntT (C : Nat → Nat → Bool) (n : Nat) (L : List Int) (i : Nat) : Nat := ((List.range n).filter fun k => decide (0 < L.getD k 0) && C k i).length
def freshT (C : Nat → Nat → Bool) (N : Nat → Int) (n : Nat) (L : List Int) : List Nat := (List.range n).filter fun i => decide (L.getD i 0 = 0) && decide (N i ≤ (cntT C n L i : Int))
def setsL (L : List Int) (v : Int) : List Nat → List Int
  | [] => L
  | i :: is => setsL (L.set i v) v is
def roundsT (C : Nat → Nat → Bool) (N : Nat → Int) (n : Nat) : Nat → Int → List Int → List Int
  | 0, _, L => L
  | f + 1, v, L => if freshT C N n L = [] then L else roundsT C N n f (v + 1) (setsL L v (freshT C N n L))
def startT (M : Nat → Bool) (n : Nat) : List Int := (List.range n).map fun i => if M i then 1 else 0
def levelsT (M : Nat → Bool) (C : Nat → Nat → Bool) (N : Nat → Int) (n : Nat) : List Int := roundsT C N n (n + 1) 2 (startT M n)
def TT (M : Nat → Bool) (C : Nat → Nat → Bool) (N : Nat → Int) (n : Nat) : Nat → Nat → Bool
  | 0, i => M i
  | r + 1, i => TT M C N n r i || decide (N i ≤ (((List.range n).filter fun k => TT M C N n r k && C k i).length : Int))
theorem TT_succ {M : Nat → Bool} {C : Nat → Nat → Bool} {N : Nat → Int} {n r i : Nat} (h : TT M C N n r i = true) : TT M C N n (r + 1) i = true := by
  show (TT M C N n r i || _) = true
  rw [h]; rfl
theorem TT_le {M : Nat → Bool} {C : Nat → Nat → Bool} {N : Nat → Int} {n r i : Nat} (h : TT M C N n r i = true) : ∀ d, TT M C N n (r + d) i = true
  | 0 => h
  | d + 1 => TT_succ (TT_le h d)
structure RepL (M : Nat → Bool) (C : Nat → Nat → Bool) (N : Nat → Int) (n r : Nat) (L : List Int) : Prop where
  len : L.length = n
  pos : ∀ i, i < n → 0 ≤ L.getD i 0 ∧ L.getD i 0 ≤ (r : Int) + 1
  lev : ∀ i, i < n → ∀ m, m ≤ r → ((0 < L.getD i 0 ∧ L.getD i 0 ≤ (m : Int) + 1) ↔ TT M C N n m i = true)
theorem RepL.start (M : Nat → Bool) (C : Nat → Nat → Bool) (N : Nat → Int) (n : Nat) : RepL M C N n 0 (startT M n) := by
  have g : ∀ i, i < n → (startT M n).getD i 0 = if M i then 1 else 0 := by
    intro i hi
    unfold startT
    rw [List.getD_eq_getElem?_getD, List.getElem?_map, List.getElem?_range hi]; rfl
  refine ⟨by unfold startT; simp, fun i hi => ?_, fun i hi m hm => ?_⟩
  · rw [g i hi]; split <;> omega
  · obtain rfl : m = 0 := by omega
    rw [g i hi]
    show _ ↔ M i = true
    cases M i <;> simp
theorem setsL_len (v : Int) : ∀ (is : List Nat) (L : List Int), (setsL L v is).length = L.length
  | [], _ => rfl
  | i :: is, L => by unfold setsL; rw [setsL_len v is]; simp
theorem setsL_get (v : Int) : ∀ (is : List Nat) (L : List Int) (j : Nat), j < L.length → (setsL L v is).getD j 0 = if j ∈ is then v else L.getD j 0
  | [], L, j, _ => by simp [setsL]
  | i :: is, L, j, hj => by
    unfold setsL
    rw [setsL_get v is (L.set i v) j (by simpa using hj)]
    by_cases h1 : j ∈ is
    · simp [h1]
    · rw [if_neg h1]
      by_cases h2 : j = i
      · subst h2
        rw [if_pos (by simp), List.getD_eq_getElem?_getD, List.getElem?_set_self hj]; rfl
      · rw [if_neg (by simp [h1, h2]), List.getD_eq_getElem?_getD, List.getElem?_set_ne (fun e => h2 e.symm), List.getD_eq_getElem?_getD]
theorem RepL.cnt {M : Nat → Bool} {C : Nat → Nat → Bool} {N : Nat → Int} {n r : Nat} {L : List Int} (h : RepL M C N n r L) (i : Nat) : cntT C n L i = ((List.range n).filter fun k => TT M C N n r k && C k i).length := by
  unfold cntT
  congr 1
  apply List.filter_congr
  intro k hk
  have hk := List.mem_range.1 hk
  have a := h.lev k hk r (Nat.le_refl _)
  have b := h.pos k hk
  congr 1
  rw [Bool.eq_iff_iff, decide_eq_true_eq, ← a]
  exact ⟨fun h => ⟨h, b.2⟩, fun h => h.1⟩
theorem RepL.zero {M : Nat → Bool} {C : Nat → Nat → Bool} {N : Nat → Int} {n r : Nat} {L : List Int} (h : RepL M C N n r L) {i : Nat} (hi : i < n) : L.getD i 0 = 0 ↔ TT M C N n r i = false := by
  have a := h.lev i hi r (Nat.le_refl _)
  have b := h.pos i hi
  rw [← Bool.not_eq_true, ← a]
  constructor
  · intro e hh; omega
  · intro hh
    by_cases e : L.getD i 0 = 0
    · exact e
    · exact absurd ⟨by omega, b.2⟩ hh
theorem mem_fresh {M : Nat → Bool} {C : Nat → Nat → Bool} {N : Nat → Int} {n r : Nat} {L : List Int} (h : RepL M C N n r L) {i : Nat} : i ∈ freshT C N n L ↔ i < n ∧ TT M C N n r i = false ∧ TT M C N n (r + 1) i = true := by
  unfold freshT
  rw [List.mem_filter, List.mem_range, Bool.and_eq_true, decide_eq_true_eq, decide_eq_true_eq, h.cnt i]
  constructor
  · rintro ⟨hi, h1, h2⟩
    refine ⟨hi, (h.zero hi).1 h1, ?_⟩
    show (_ || decide _) = true
    rw [decide_eq_true h2, Bool.or_true]
  · rintro ⟨hi, h1, h2⟩
    refine ⟨hi, (h.zero hi).2 h1, ?_⟩
    have h2 : (TT M C N n r i || decide _) = true := h2
    rw [h1, Bool.false_or, decide_eq_true_eq] at h2
    exact h2
theorem RepL.next {M : Nat → Bool} {C : Nat → Nat → Bool} {N : Nat → Int} {n r : Nat} {L : List Int} (h : RepL M C N n r L) : RepL M C N n (r + 1) (setsL L ((r : Int) + 2) (freshT C N n L)) := by
  have g : ∀ i, i < n → (setsL L ((r : Int) + 2) (freshT C N n L)).getD i 0 = if i ∈ freshT C N n L then (r : Int) + 2 else L.getD i 0 := fun i hi => setsL_get _ _ _ _ (by rw [h.len]; exact hi)
  refine ⟨by rw [setsL_len, h.len], fun i hi => ?_, fun i hi m hm => ?_⟩
  · rw [g i hi]
    have := h.pos i hi
    split <;> omega
  · rw [g i hi]
    by_cases hf : i ∈ freshT C N n L
    · rw [if_pos hf]
      obtain ⟨-, f1, f2⟩ := (mem_fresh h).1 hf
      by_cases e : m = r + 1
      · subst e
        exact ⟨fun _ => f2, fun _ => ⟨by omega, by omega⟩⟩
      · constructor
        · rintro ⟨-, h2⟩; omega
        · intro hh
          have := TT_le hh (r - m)
          rw [show m + (r - m) = r by omega, f1] at this
          cases this
    · rw [if_neg hf]
      have p := h.pos i hi
      by_cases e : m = r + 1
      · subst e
        have a := h.lev i hi r (Nat.le_refl _)
        constructor
        · rintro ⟨h1, -⟩
          exact TT_succ (a.1 ⟨h1, p.2⟩)
        · intro hh
          cases hr : TT M C N n r i
          · exact absurd ((mem_fresh h).2 ⟨hi, hr, hh⟩) hf
          · have := a.2 hr
            exact ⟨this.1, by omega⟩
      · exact h.lev i hi m (by omega)
theorem TT_stop {M : Nat → Bool} {C : Nat → Nat → Bool} {N : Nat → Int} {n r : Nat} (h : ∀ i, i < n → TT M C N n (r + 1) i = TT M C N n r i) : ∀ d i, i < n → TT M C N n (r + d) i = TT M C N n r i
  | 0, _, _ => rfl
  | d + 1, i, hi => by
    have ih := TT_stop h d
    have e : TT M C N n (r + d + 1) i = TT M C N n (r + 1) i := by
      show (TT M C N n (r + d) i || decide _) = (TT M C N n r i || decide _)
      rw [ih i hi]
      congr 2
      have : ((List.range n).filter fun k => TT M C N n (r + d) k && C k i) = ((List.range n).filter fun k => TT M C N n r k && C k i) := by
        apply List.filter_congr
        intro k hk
        rw [ih k (List.mem_range.1 hk)]
      rw [this]
    exact e.trans (h i hi)
structure FinL (M : Nat → Bool) (C : Nat → Nat → Bool) (N : Nat → Int) (n : Nat) (L : List Int) : Prop where
  len : L.length = n
  pos : ∀ i, i < n → 0 ≤ L.getD i 0
  lev : ∀ i, i < n → ∀ m : Nat, ((0 < L.getD i 0 ∧ L.getD i 0 ≤ (m : Int) + 1) ↔ TT M C N n m i = true)
theorem RepL.fin {M : Nat → Bool} {C : Nat → Nat → Bool} {N : Nat → Int} {n r : Nat} {L : List Int} (h : RepL M C N n r L) (hf : freshT C N n L = []) : FinL M C N n L := by
  have st : ∀ i, i < n → TT M C N n (r + 1) i = TT M C N n r i := by
    intro i hi
    cases h1 : TT M C N n r i
    · cases h2 : TT M C N n (r + 1) i
      · rfl
      · have := (mem_fresh h).2 ⟨hi, h1, h2⟩
        rw [hf] at this; cases this
    · exact TT_succ h1
  refine ⟨h.len, fun i hi => (h.pos i hi).1, fun i hi m => ?_⟩
  by_cases hm : m ≤ r
  · exact h.lev i hi m hm
  · have e := TT_stop st (m - r) i hi
    rw [show r + (m - r) = m by omega] at e
    rw [e, ← h.lev i hi r (Nat.le_refl _)]
    have := h.pos i hi
    constructor
    · rintro ⟨a, b⟩; exact ⟨a, this.2⟩
    · rintro ⟨a, b⟩; exact ⟨a, by omega⟩
def zerosL (n : Nat) (L : List Int) : Nat := ((List.range n).filter fun i => decide (L.getD i 0 = 0)).length
theorem zeros_next {M : Nat → Bool} {C : Nat → Nat → Bool} {N : Nat → Int} {n r : Nat} {L : List Int} (h : RepL M C N n r L) (hf : freshT C N n L ≠ []) : zerosL n (setsL L ((r : Int) + 2) (freshT C N n L)) < zerosL n L := by
  obtain ⟨i, is, e⟩ := List.exists_cons_of_ne_nil hf
  have hi : i ∈ freshT C N n L := by rw [e]; simp
  obtain ⟨h1, h2, h3⟩ := (mem_fresh h).1 hi
  have g : ∀ j, j < n → (setsL L ((r : Int) + 2) (freshT C N n L)).getD j 0 = if j ∈ freshT C N n L then (r : Int) + 2 else L.getD j 0 := fun j hj => setsL_get _ _ _ _ (by rw [h.len]; exact hj)
  unfold zerosL
  rw [← List.countP_eq_length_filter, ← List.countP_eq_length_filter]
  have sp : ∀ (p q : Nat → Bool) (l : List Nat), (∀ x ∈ l, p x = true → q x = true) → i ∈ l → p i = false → q i = true → l.countP p < l.countP q := by
    intro p q l
    induction l with
    | nil => intro _ hm; cases hm
    | cons a l ih =>
      intro hpq hm hp hq
      rw [List.countP_cons, List.countP_cons]
      have m1 : l.countP p ≤ l.countP q := List.countP_mono_left (fun x hx => hpq x (List.mem_cons_of_mem _ hx))
      rcases List.mem_cons.1 hm with rfl | hm
      · rw [hp, hq]; simp; omega
      · have := ih (fun x hx => hpq x (List.mem_cons_of_mem _ hx)) hm hp hq
        have := hpq a List.mem_cons_self
        by_cases ha : p a = true
        · rw [ha, this ha]; omega
        · rw [Bool.not_eq_true] at ha; rw [ha]; simp; omega
  refine sp _ _ _ (fun x hx hh => ?_) (List.mem_range.2 h1) ?_ ?_
  · have hx := List.mem_range.1 hx
    rw [decide_eq_true_eq] at hh ⊢
    rw [g x hx] at hh
    split at hh
    · omega
    · exact hh
  · rw [decide_eq_false_iff_not, g i h1, if_pos hi]; omega
  · rw [decide_eq_true_eq]; exact (h.zero h1).2 h2
theorem rounds_fin {M : Nat → Bool} {C : Nat → Nat → Bool} {N : Nat → Int} {n : Nat} : ∀ (f r : Nat) (L : List Int), RepL M C N n r L → zerosL n L < f → FinL M C N n (roundsT C N n f ((r : Int) + 2) L)
  | 0, _, _, _, h => absurd h (Nat.not_lt_zero _)
  | f + 1, r, L, h, hz => by
    unfold roundsT
    by_cases hf : freshT C N n L = []
    · rw [if_pos hf]; exact h.fin hf
    · rw [if_neg hf]
      have := rounds_fin (M := M) f (r + 1) _ h.next (by have := zeros_next h hf; omega)
      rwa [show ((r + 1 : Nat) : Int) + 2 = (r : Int) + 2 + 1 by omega] at this
theorem levels_fin (M : Nat → Bool) (C : Nat → Nat → Bool) (N : Nat → Int) (n : Nat) : FinL M C N n (levelsT M C N n) := by
  refine rounds_fin (n + 1) 0 _ (RepL.start M C N n) ?_
  unfold zerosL
  have := List.length_filter_le (fun i => decide ((startT M n).getD i 0 = 0)) (List.range n)
  rw [List.length_range] at this
  omega
theorem tstep_no {rev : Tx → Bool} {s : TS} {r : RV} (h : ¬ validR r.c = true) : tstep rev s r = s := by unfold tstep; rw [if_neg h]
theorem tstep_1 {rev : Tx → Bool} {s : TS} {r : RV} (h : validR r.c = true) (h1 : r.kind = 1) : tstep rev s r = (match auG s.au (idC r.c) with | some _ => s | none => ⟨s.au ++ [(idC r.c, r.author)], s.mr, if rev (idC r.c) then s.nd ++ [r.author] else s.nd⟩) := by unfold tstep; rw [if_pos h, if_pos h1]
theorem tstep_has {rev : Tx → Bool} {s : TS} {r : RV} {v : Int} (h1 : r.kind = 1) (hg : auG s.au (idC r.c) = some v) : tstep rev s r = s := by
  by_cases h : validR r.c = true
  · rw [tstep_1 h h1, hg]
  · exact tstep_no h
theorem tstep_new {rev : Tx → Bool} {s : TS} {r : RV} (h : validR r.c = true) (h1 : r.kind = 1) (hg : auG s.au (idC r.c) = none) : tstep rev s r = ⟨s.au ++ [(idC r.c, r.author)], s.mr, if rev (idC r.c) then s.nd ++ [r.author] else s.nd⟩ := by rw [tstep_1 h h1, hg]
theorem tstep_2 {rev : Tx → Bool} {s : TS} {r : RV} (h : validR r.c = true) (h2 : r.kind = 2) : tstep rev s r = ⟨s.au, ((r.author, r.target), r.yes && (auG s.au r.target).isSome) :: s.mr, s.nd⟩ := by
  unfold tstep; rw [if_pos h, if_neg (by rw [h2]; decide), if_pos h2]
theorem tstep_other {rev : Tx → Bool} {s : TS} {r : RV} (h1 : r.kind ≠ 1) (h2 : r.kind ≠ 2) : tstep rev s r = s := by
  unfold tstep
  rw [if_neg h1, if_neg h2]; split <;> rfl
theorem tsF_app (rev : Tx → Bool) (l : List RV) (r : RV) : tsF rev (l ++ [r]) = tstep rev (tsF rev l) r := by simp [tsF, List.foldl_append]
theorem tsF_take (rev : Tx → Bool) (l : List RV) {k : Nat} (h : k < l.length) : tsF rev (l.take (k + 1)) = tstep rev (tsF rev (l.take k)) l[k] := by
  rw [List.take_succ_eq_append_getElem h, tsF_app]
theorem auG_app {au : List (Tx × Int)} {t : Tx} {v : Int} (h : auG au t = some v) (q : Tx × Int) : auG (au ++ [q]) t = some v := by
  unfold auG at h ⊢
  rw [List.find?_append]
  cases hf : au.find? fun p => decide (p.1 = t)
  · rw [hf] at h; cases h
  · rw [hf] at h; exact h
theorem auG_new {au : List (Tx × Int)} {t : Tx} (h : auG au t = none) (q : Tx × Int) : auG (au ++ [q]) t = if q.1 = t then some q.2 else none := by
  unfold auG at h ⊢
  rw [List.find?_append]
  cases hf : au.find? fun p => decide (p.1 = t)
  · by_cases e : q.1 = t <;> simp [e]
  · rw [hf] at h; cases h
theorem au_step (rev : Tx → Bool) (s : TS) (r : RV) {t : Tx} {v : Int} (h : auG s.au t = some v) : auG (tstep rev s r).au t = some v := by
  by_cases hv : validR r.c = true
  · by_cases h1 : r.kind = 1
    · cases hg : auG s.au (idC r.c)
      · rw [tstep_new hv h1 hg]; exact auG_app h _
      · rw [tstep_has h1 hg]; exact h
    · by_cases h2 : r.kind = 2
      · rw [tstep_2 hv h2]; exact h
      · rw [tstep_other h1 h2]; exact h
  · rw [tstep_no hv]; exact h
theorem mkG_cons (mr : List ((Int × Tx) × Bool)) (q p : Int × Tx) (b : Bool) : mkG ((q, b) :: mr) p = if q = p then some b else mkG mr p := by
  unfold mkG
  rw [List.find?_cons]
  by_cases e : q = p <;> simp [e]
theorem au_first (hid : ∀ c, idC c ≠ [] → validR c = true) (rev : Tx → Bool) {t : Tx} (ht : t ≠ []) : ∀ (l : List RV) (k : Nat), k ≤ l.length → auG (tsF rev (l.take k)).au t = ((l.take k).find? fun r => decide (r.kind = 1) && decide (idC r.c = t)).map (·.author)
  | l, 0, _ => by rw [List.take_zero]; rfl
  | l, k + 1, h => by
    have ih := au_first hid rev ht l k (by omega)
    rw [tsF_take rev l (by omega), List.take_succ_eq_append_getElem (by omega), List.find?_append]
    cases hf : (l.take k).find? fun r => decide (r.kind = 1) && decide (idC r.c = t)
    · rw [hf] at ih
      have ih : auG (tsF rev (l.take k)).au t = none := ih
      generalize tsF rev (l.take k) = s at *
      generalize l[k] = r at *
      by_cases h1 : r.kind = 1
      · by_cases h2 : idC r.c = t
        · have hv := hid r.c (by rw [h2]; exact ht)
          rw [tstep_new hv h1 (by rw [h2]; exact ih), auG_new ih, h2, if_pos rfl]
          simp [h1, h2]
        · have e : auG (tstep rev s r).au t = none := by
            by_cases hv : validR r.c = true
            · cases hg : auG s.au (idC r.c)
              · rw [tstep_new hv h1 hg, auG_new ih, if_neg h2]
              · rw [tstep_has h1 hg]; exact ih
            · rw [tstep_no hv]; exact ih
          rw [e]; simp [h2]
      · have e : auG (tstep rev s r).au t = none := by
          by_cases hv : validR r.c = true
          · by_cases h2 : r.kind = 2
            · rw [tstep_2 hv h2]; exact ih
            · rw [tstep_other h1 h2]; exact ih
          · rw [tstep_no hv]; exact ih
        rw [e]; simp [h1]
    · rw [hf] at ih
      have := au_step rev (tsF rev (l.take k)) l[k] ih
      rw [this]; rfl
theorem first_find (t : Tx) : ∀ (l : List RV) (i k : Nat), firstGo t l i = ((i + k : Nat) : Int) → ∀ m, k < m → ∃ h : k < l.length, (l.take m).find? (fun r => decide (r.kind = 1) && decide (idC r.c = t)) = some l[k]
  | [], i, k, h, _, _ => by unfold firstGo at h; omega
  | r :: l, i, k, h, m, hm => by
    unfold firstGo at h
    obtain ⟨m', rfl⟩ : ∃ m', m = m' + 1 := ⟨m - 1, by omega⟩
    rw [List.take_succ_cons, List.find?_cons]
    by_cases hh : r.kind = 1 ∧ idC r.c = t
    · rw [if_pos hh] at h
      obtain rfl : k = 0 := by omega
      exact ⟨by simp, by simp [hh.1, hh.2]⟩
    · rw [if_neg hh] at h
      cases k with
      | zero =>
        exfalso
        have : ∀ (l : List RV) (j : Nat), firstGo t l j = -1 ∨ (j : Int) ≤ firstGo t l j := by
          intro l
          induction l with
          | nil => intro j; exact .inl rfl
          | cons a l ih =>
            intro j
            unfold firstGo
            split
            · exact .inr (Int.le_refl _)
            · rcases ih (j + 1) with e | e
              · exact .inl e
              · exact .inr (by omega)
        rcases this l (i + 1) with e | e <;> omega
      | succ k =>
        obtain ⟨h1, h2⟩ := first_find t l (i + 1) k (by rw [h]; congr 1; omega) m' (by omega)
        refine ⟨by simp; omega, ?_⟩
        have : (decide (r.kind = 1) && decide (idC r.c = t)) = false := by
          rw [← Bool.not_eq_true, Bool.and_eq_true, decide_eq_true_eq, decide_eq_true_eq]; exact hh
        rw [this]
        simpa using h2
def dropB (l : List RV) (i : Nat) : Bool := match l[i]? with
  | none => false
  | some r => decide (r.kind = 2) && (List.range l.length).any fun k => match l[k]? with
    | none => false
    | some q => (decide (i < k) && (decide (q.kind = 2) && (decide (q.author = r.author) && (decide (q.target = r.target) && validR q.c)))) || ((decide (q.kind = 1) && (decide (q.author = r.author) && (decide (idC q.c = r.target) && decide (k < i)))) && decide (firstGo r.target l 0 = (k : Int)))
def lessM (l : List RV) : Nat → List RV
  | 0 => []
  | k + 1 => lessM l k ++ match l[k]? with | none => [] | some r => if dropB l k then [] else [r]
structure RelM (rev : Tx → Bool) (l : List RV) (k : Nat) (s s' : TS) : Prop where
  au : s'.au = s.au
  nd : s'.nd = s.nd
  mr : ∀ p t, mkG s'.mr (p, t) = mkG s.mr (p, t) ∨ (∃ j, ∃ h : j < l.length, k ≤ j ∧ l[j].kind = 2 ∧ l[j].author = p ∧ l[j].target = t ∧ validR l[j].c = true) ∨ auG s.au t = some p
theorem relM (hid : ∀ c, idC c ≠ [] → validR c = true) (hmk : ∀ r : RV, r.kind = 2 → validR r.c = true → r.target ≠ []) (rev : Tx → Bool) (l : List RV) : ∀ k, k ≤ l.length → RelM rev l k (tsF rev (l.take k)) (tsF rev (lessM l k))
  | 0, _ => ⟨rfl, rfl, fun _ _ => .inl rfl⟩
  | k + 1, h => by
    have ih := relM hid hmk rev l k (by omega)
    have hk : k < l.length := by omega
    have AF := fun (t : Tx) (ht : t ≠ []) => au_first hid rev ht l k (by omega)
    rw [tsF_take rev l hk]
    unfold lessM
    rw [List.getElem?_eq_getElem hk]
    dsimp only
    cases hd : dropB l k
    · rw [if_neg Bool.false_ne_true, tsF_app]
      generalize tsF rev (l.take k) = s at *
      generalize tsF rev (lessM l k) = s' at *
      have a : s'.au = s.au := ih.au
      have b : s'.nd = s.nd := ih.nd
      have key : ∀ (p : Int) (t : Tx), (∃ j, ∃ h : j < l.length, k ≤ j ∧ l[j].kind = 2 ∧ l[j].author = p ∧ l[j].target = t ∧ validR l[j].c = true) → ¬ (l[k].kind = 2 ∧ l[k].author = p ∧ l[k].target = t ∧ validR l[k].c = true) → (∃ j, ∃ h : j < l.length, k + 1 ≤ j ∧ l[j].kind = 2 ∧ l[j].author = p ∧ l[j].target = t ∧ validR l[j].c = true) := by
        rintro p t ⟨j, hj, h1, h2, h3, h4, h5⟩ hn
        by_cases e : j = k
        · subst e; exact absurd ⟨h2, h3, h4, h5⟩ hn
        · exact ⟨j, hj, by omega, h2, h3, h4, h5⟩
      have AS : ∀ {t : Tx} {v : Int}, auG s.au t = some v → auG (tstep rev s l[k]).au t = some v := fun h => au_step rev s l[k] h
      generalize l[k] = r at *
      by_cases hv : validR r.c = true
      · by_cases h1 : r.kind = 1
        · cases hg : auG s.au (idC r.c)
          · rw [tstep_new hv h1 hg] at AS
            rw [tstep_new hv h1 hg, tstep_new hv h1 (by rw [a]; exact hg)]
            refine ⟨by rw [a], by rw [b], fun p t => ?_⟩
            rcases ih.mr p t with e | e | e
            · exact .inl e
            · exact .inr (.inl (key p t e (fun hh => by rw [h1] at hh; exact absurd hh.1 (by decide))))
            · exact .inr (.inr (AS e))
          · rw [tstep_has h1 hg, tstep_has h1 (by rw [a]; exact hg)]
            refine ⟨a, b, fun p t => ?_⟩
            rcases ih.mr p t with e | e | e
            · exact .inl e
            · exact .inr (.inl (key p t e (fun hh => by rw [h1] at hh; exact absurd hh.1 (by decide))))
            · exact .inr (.inr e)
        · by_cases h2 : r.kind = 2
          · rw [tstep_2 hv h2, tstep_2 hv h2]
            refine ⟨a, b, fun p t => ?_⟩
            rw [mkG_cons, mkG_cons, a]
            by_cases e0 : (r.author, r.target) = (p, t)
            · rw [if_pos e0, if_pos e0]; exact .inl rfl
            · rw [if_neg e0, if_neg e0]
              rcases ih.mr p t with e | e | e
              · exact .inl e
              · exact .inr (.inl (key p t e (fun hh => e0 (by rw [hh.2.1, hh.2.2.1]))))
              · exact .inr (.inr e)
          · rw [tstep_other h1 h2, tstep_other h1 h2]
            refine ⟨a, b, fun p t => ?_⟩
            rcases ih.mr p t with e | e | e
            · exact .inl e
            · exact .inr (.inl (key p t e (fun hh => h2 hh.1)))
            · exact .inr (.inr e)
      · rw [tstep_no hv, tstep_no hv]
        refine ⟨a, b, fun p t => ?_⟩
        rcases ih.mr p t with e | e | e
        · exact .inl e
        · exact .inr (.inl (key p t e (fun hh => hv hh.2.2.2)))
        · exact .inr (.inr e)
    · rw [if_pos rfl, List.append_nil]
      -- the mark is left out
      unfold dropB at hd
      rw [List.getElem?_eq_getElem hk] at hd
      dsimp only at hd
      rw [Bool.and_eq_true, decide_eq_true_eq, List.any_eq_true] at hd
      obtain ⟨h2, j, hj, hd⟩ := hd
      have hj := List.mem_range.1 hj
      rw [List.getElem?_eq_getElem hj] at hd
      dsimp only at hd
      simp only [Bool.or_eq_true, Bool.and_eq_true, decide_eq_true_eq] at hd
      have h1 : l[k].kind ≠ 1 := by rw [h2]; decide
      have keyL : ∀ (p : Int) (t : Tx), (∃ j, ∃ h : j < l.length, k ≤ j ∧ l[j].kind = 2 ∧ l[j].author = p ∧ l[j].target = t ∧ validR l[j].c = true) → ¬ (l[k].author = p ∧ l[k].target = t ∧ validR l[k].c = true) → (∃ j, ∃ h : j < l.length, k + 1 ≤ j ∧ l[j].kind = 2 ∧ l[j].author = p ∧ l[j].target = t ∧ validR l[j].c = true) := by
        rintro p t ⟨j, hj, h1, h2, h3, h4, h5⟩ hn
        by_cases e : j = k
        · subst e; exact absurd ⟨h3, h4, h5⟩ hn
        · exact ⟨j, hj, by omega, h2, h3, h4, h5⟩
      by_cases hv : validR l[k].c = true
      · have HK : auG (tsF rev (l.take k)).au l[k].target = some l[k].author ∨ (∃ j, ∃ h : j < l.length, k + 1 ≤ j ∧ l[j].kind = 2 ∧ l[j].author = l[k].author ∧ l[j].target = l[k].target ∧ validR l[j].c = true) := by
          rcases hd with ⟨d1, d2, d3, d4, d5⟩ | ⟨⟨d1, d2, d3, d4⟩, d5⟩
          · exact .inr ⟨j, hj, d1, d2, d3, d4, d5⟩
          · refine .inl ?_
            have ht := hmk l[k] h2 hv
            obtain ⟨hj2, hf⟩ := first_find l[k].target l 0 j (by rw [d5]; simp) k d4
            rw [AF _ ht, hf]
            show some l[j].author = _
            rw [d2]
        generalize tsF rev (l.take k) = s at *
        generalize tsF rev (lessM l k) = s' at *
        rw [tstep_2 hv h2]
        refine ⟨ih.au, ih.nd, fun p t => ?_⟩
        rw [mkG_cons]
        by_cases e0 : (l[k].author, l[k].target) = (p, t)
        · injection e0 with e1 e2
          subst e1 e2
          rcases HK with e | e
          · exact .inr (.inr e)
          · exact .inr (.inl e)
        · rw [if_neg e0]
          rcases ih.mr p t with e | e | e
          · exact .inl e
          · exact .inr (.inl (keyL p t e (fun hh => e0 (by rw [hh.1, hh.2.1]))))
          · exact .inr (.inr e)
      · generalize tsF rev (l.take k) = s at *
        generalize tsF rev (lessM l k) = s' at *
        rw [tstep_no hv]
        refine ⟨ih.au, ih.nd, fun p t => ?_⟩
        rcases ih.mr p t with e | e | e
        · exact .inl e
        · exact .inr (.inl (keyL p t e (fun hh => hv hh.2.2)))
        · exact .inr (.inr e)
theorem conf_marks (hid : ∀ c, idC c ≠ [] → validR c = true) (hmk : ∀ r : RV, r.kind = 2 → validR r.c = true → r.target ≠ []) (rev : Tx → Bool) (l : List RV) (n : Nat) (p a : Int) : confT rev (tsF rev (lessM l l.length)) n p a = confT rev (tsF rev l) n p a := by
  have R := relM hid hmk rev l l.length (Nat.le_refl _)
  rw [List.take_length] at R
  generalize tsF rev (lessM l l.length) = s' at *
  generalize tsF rev l = s at *
  unfold confT
  rw [R.au]
  congr 1
  funext q
  rcases R.mr p q.1 with e | ⟨j, hj, h, -⟩ | e
  · rw [e]
  · omega
  · by_cases e2 : q.2 = a
    · by_cases e3 : auG s.au q.1 = some a
      · rw [e] at e3
        injection e3 with e3
        simp [e3]
      · simp [e3]
    · simp [e2]
theorem ent_marks (ms : List Int) (l : List RV) : ∀ k, k ≤ l.length → entS ms (lessM l k) = entS ms (l.take k)
  | 0, _ => by rw [List.take_zero]; rfl
  | k + 1, h => by
    have hk : k < l.length := by omega
    have ih := ent_marks ms l k (by omega)
    rw [entS_take ms l hk]
    unfold lessM
    rw [List.getElem?_eq_getElem hk]
    dsimp only
    cases hd : dropB l k
    · rw [if_neg Bool.false_ne_true, entS_app, ih]
    · rw [if_pos rfl, List.append_nil, ih]
      unfold dropB at hd
      rw [List.getElem?_eq_getElem hk] at hd
      dsimp only at hd
      rw [Bool.and_eq_true, decide_eq_true_eq] at hd
      unfold stepS
      rw [if_neg (by rw [hd.1]; decide), if_neg (by rw [hd.1]; decide)]
end Go.Proofs.YtniklmikdkjgiaaGreatDoor
namespace Go.Proofs.YtniklmikdkjgiaaGreatDoor
open Go.RowKit Go.Maps Go.ChangeMaps Go.MapKept Go.WideShapes Go.WideMaps
theorem laidT : laidOutB Tryz.prog = true := by kernel_rfl
theorem intK : Go.Maps.Keyed Tryz.prog 3 := Maps.int_keyed Tryz.underlying3
theorem twoK : Go.Maps.Keyed Tryz.prog 166 := Keyed.of_law (deep_law_laid laidT (m := 2) (by omega) (of_decide_eq_true (by kernel_rfl)) (by kernel_rfl) (by rw [Tryz.underlying166]))
theorem pairK : Go.Maps.Keyed Tryz.prog 173 := Keyed.of_law (deep_law_laid laidT (m := 2) (by omega) (of_decide_eq_true (by kernel_rfl)) (by kernel_rfl) (by rw [Tryz.underlying173]))
theorem wf_int {a : Int} (h : -9223372036854775808 ≤ a ∧ a ≤ 9223372036854775807) : (Lit.int .i64 a).wf = true := by
  have h1 : IntKind.min .i64 = -9223372036854775808 := by decide
  have h2 : IntKind.max .i64 = 9223372036854775807 := by decide
  simp [Lit.wf, IntKind.bits, h1, h2]
  omega
theorem key_int {a : Int} (h : -9223372036854775808 ≤ a ∧ a ≤ 9223372036854775807) : keyOf Tryz.prog 3 (.int .i64 a) = some (.int .i64 a) := keyOf_int_mk Tryz.underlying3 (wf_int h)
def k2 (a b : Int) : Lit := .string (keyBytes [.int .i64 a, .int .i64 b])
def kp (a : Int) (t : Tx) : Lit := .string (keyBytes [.int .i64 a, .string t])
theorem arr2 : ArrKey Tryz.prog 166 3 2 := ⟨Tryz.underlying166, by kernel_rfl, by kernel_rfl, by kernel_rfl⟩
theorem key_two {a b : Int} (ha : -9223372036854775808 ≤ a ∧ a ≤ 9223372036854775807) (hb : -9223372036854775808 ≤ b ∧ b ≤ 9223372036854775807) : keyOf Tryz.prog 166 (.agg #[.int .i64 a, .int .i64 b]) = some (k2 a b) :=
  keyOf_pair arr2 Tryz.underlying3 ⟨Tryz.prog.types.size - 1, by kernel_rfl⟩ (wf_int ha) (wf_int hb)
theorem key_pair {a : Int} {t : Tx} (ha : -9223372036854775808 ≤ a ∧ a ≤ 9223372036854775807) (ht : t.length ≤ 1000000) : keyOf Tryz.prog 173 (.agg #[.int .i64 a, .string (mkB t)]) = some (kp a t) := by
  have hkt : Tryz.prog.keyType 173 = true := by kernel_rfl
  have hc : Tryz.prog.cellsOf 173 = 2 := by kernel_rfl
  have hi : Tryz.prog.cellsOf 3 = 1 := by kernel_rfl
  have hs : Tryz.prog.cellsOf 9 = 1 := by kernel_rfl
  obtain ⟨m, hm⟩ : ∃ m, Tryz.prog.types.size = m + 1 := ⟨Tryz.prog.types.size - 1, by kernel_rfl⟩
  have hl : (mkB t).size ≤ maxLen := by unfold maxLen; rw [mkB_len]; omega
  unfold keyOf
  simp only [Tryz.underlying173]
  rw [if_pos (by simp [hkt, Value.formed, Tryz.underlying173, hc]), hm]
  unfold Program.keyLits
  simp only [Tryz.underlying173, Value.cells]
  rw [if_pos ⟨by rw [hc]; rfl, by kernel_rfl⟩]
  simp [hi, hs, Program.keyLits, Tryz.underlying3, Tryz.underlying9, wf_int ha, hl, mkB_list, kp]
theorem k2_inj {a b c d : Int} (ha : -9223372036854775808 ≤ a ∧ a ≤ 9223372036854775807) (hb : -9223372036854775808 ≤ b ∧ b ≤ 9223372036854775807) (hc : -9223372036854775808 ≤ c ∧ c ≤ 9223372036854775807) (hd : -9223372036854775808 ≤ d ∧ d ≤ 9223372036854775807) (h : k2 a b = k2 c d) : a = c ∧ b = d := by
  have := twoK.inj (key_two ha hb) (by rw [h]; exact key_two hc hd)
  injection this with h1
  injection h1 with h2
  injection h2 with h3 h4
  injection h4 with h4 _
  injection h3 with _ h3
  injection h4 with _ h4
  exact ⟨h3, h4⟩
theorem kp_inj {a c : Int} {t s : Tx} (ha : -9223372036854775808 ≤ a ∧ a ≤ 9223372036854775807) (ht : t.length ≤ 1000000) (hc : -9223372036854775808 ≤ c ∧ c ≤ 9223372036854775807) (hs : s.length ≤ 1000000) (h : kp a t = kp c s) : a = c ∧ t = s := by
  have := pairK.inj (key_pair ha ht) (by rw [h]; exact key_pair hc hs)
  injection this with h1
  injection h1 with h2
  injection h2 with h3 h4
  injection h4 with h4 _
  injection h3 with _ h3
  injection h4 with h4
  exact ⟨h3, mkB_inj h4⟩
theorem zInt (w : World) : (zeroValue 3).run Tryz.prog w = .ok (.int .i64 0) w := by kernel_rfl
theorem MapAt.look2 {w : World} {P : Program} {k : TypeId} {b n : Nat} {M : Lit → Option Value} {kl : Lit} (h : MapAt w P k b M n) (K : Go.Maps.Keyed P k) {t e : TypeId} (ht : P.underlying t = some (.map k e)) {z : Value} (hz : (zeroValue e).run P w = .ok z w) {key : Value} (hkey : keyOf P k key = some kl) :
    (Instr.lookup t (.map (some b)) key true).run P w = .ok (.tuple #[(M kl).getD z, .bool (M kl).isSome]) w := by
  obtain ⟨D, h1, h2, h3⟩ := h
  have := (at_held (R := .nil) h1 K ht hz hkey true).1
  rw [h3] at this
  exact this
end Go.Proofs.YtniklmikdkjgiaaGreatDoor
namespace Go.Proofs.YtniklmikdkjgiaaGreatDoor
open Go.RowKit Go.Shelf Go.Maps Go.ChangeMaps Go.MapKept Go.WideShapes Go.WideMaps
section
variable {F : Fence} {n : Nat} {P : Program}
theorem below_put {B l : Nat} {W : World} {o o' : Obj} (hB : B ≤ l) (h : W.heap[l]? = some o) : Below B W (W.putObj l o') :=
  (Below.refl B W).grown (grownBy_putObj' W l o') (by have := (Array.getElem?_eq_some_iff.1 h).1; omega) (fun k e => by cases e; omega)
theorem wpIn_rangeT {σ : Type} {g : Operand} {ps : Array Tmp} {assign body : Code} {Q : Exit → Act → World → Prop} {a : Act} {w : World}
    (hro : F.round = none) (h1 : 1 ≤ n) {gf : Nat} {lb : Array Value} (hg : a.eval g = .func (.func gf) #[] lb) (hFg : F.fn gf) (eg : ∀ args w, (callFunc gf args).run P w = .ok (.enter gf args) w)
    (I : σ → World → Prop) (hI : ∀ s A B, I s A → Below w.heap.size A B → I s B)
    (Px : σ → Value → World → Prop) (hPx : ∀ s v A l o o', Px s v A → A.heap[l]? = some o → o.isCells = false → Px s v (A.putObj l o'))
    (nx : σ → σ) (T : σ → Prop) (s0 : σ) (hps : ps.size = 1)
    (hseq : ∀ (l : Nat) (J : σ → World → Prop) (W : World), Below w.heap.size w W → (∀ s A, J s A → I s A) → (∀ s A B, J s A → Below W.heap.size A B → J s B) → (∀ s A, J s A → W.heap.size ≤ A.heap.size) →
      (∀ s v A, J s A → Px s v A → YieldAt F (n - 1 - 1) P l #[v] A fun e A' => e = .returned (.bool true) ∧ J (nx s) A') → J s0 W →
      CallsIn F (n - 1) P gf (#[.func (.yield l) #[] #[]] ++ lb) W fun e W' => (∃ v, e = .returned v) ∧ ∃ s, T s ∧ J s W')
    (h0 : I s0 w) (a₁ : Value → Act)
    (hassign : ∀ (l : Nat) (v : Value) (W : World) (K : Act → World → Prop), K (a₁ v) W →
      assign.wpIn (F.inRound l) (n - 1 - 1) P (Exit.then K (fun _ _ _ => False)) { tmps := (ps.zip #[v]).foldl (fun t (p, v) => t.setIfInBounds p v) a.tmps, defers := [] } W)
    (hbody : ∀ (l : Nat) (s : σ) (v : Value) (W : World), I s W → Px s v W → body.wpIn (F.inRound l) (n - 1 - 1) P (fun e _ W' => e = .normal ∧ KeepsOthers W W' ∧ I (nx s) W') (a₁ v) W)
    (hdone : ∀ (D : Nat) (s : σ) (W : World), w.heap.size ≤ D → T s → I s W → W.heap[D]? = some (.deferred (some [])) → Q .normal { a with defers := { target := .collected D, args := #[] } :: a.defers } W) :
    (Code.rangeFunc g ps assign body).wpIn F n P Q a w := by
  refine wpIn_rangeFunc ?_
  intro fn hfn
  rw [hro]
  obtain ⟨rec, hrec⟩ : ∃ rec : LoopState → Option Code → Loop, rec = fun st pe => { state := st, pending := pe, fn, tmps := a.tmps, params := ps, assign, body, defers := w.heap.size } := ⟨_, rfl⟩
  obtain ⟨W1, hW1⟩ : ∃ W1, (w.alloc (.deferred (some []))).alloc (.loop (rec .ready none)) = W1 := ⟨_, rfl⟩
  have hL1 : W1.heap[w.heap.size + 1]? = some (.loop (rec .ready none)) := by
    rw [← hW1]; have := World.alloc_heap_new (w.alloc (.deferred (some []))) (.loop (rec .ready none)); rwa [World.size_alloc] at this
  have hK1 : W1.heap[w.heap.size]? = some (.deferred (some [])) := by
    rw [← hW1]; exact (Below.heap_alloc _ _ _ (by simp)).trans (World.alloc_heap_new w _)
  have hb1 : Below w.heap.size w W1 := by
    rw [← hW1]; exact ((Below.refl _ w).alloc (Nat.le_refl _) _).alloc (by simp) _
  have hz1 : W1.heap.size = w.heap.size + 2 := by rw [← hW1]; simp
  refine ⟨w.heap.size + 1, [{ target := .collected w.heap.size, args := #[] }], W1, { target := .fn (.func gf) lb, args := #[.func (.yield (w.heap.size + 1)) #[] #[]] }, W1, gf,
    #[.func (.yield (w.heap.size + 1)) #[] #[]] ++ lb, W1, ?_, ?_, ?_, ?_, fun _ => h1, ?_⟩
  · rw [← hW1, hrec]; exact run_enterLoop_outer _ _ _ _ _
  · simp only [resolve, hg]
    simp [go_sem]
  · intro f' hf'; simp [Target.leads] at hf'; subst hf'; exact hFg
  · simp [invoke, go_sem, eg]
  · refine (hseq (w.heap.size + 1) (fun s W => I s W ∧ W.heap[w.heap.size + 1]? = some (.loop (rec .ready none)) ∧ W.heap[w.heap.size]? = some (.deferred (some [])))
      W1 hb1 (fun s A h => h.1) (fun s A B h hB => ⟨hI s A B h.1 (hB.mono (by omega)), (hB.block _ (by omega)).trans h.2.1, (hB.block _ (by omega)).trans h.2.2⟩) (fun s A h => by have := (Array.getElem?_eq_some_iff.1 h.2.1).1; omega) ?_ ⟨hI _ _ _ h0 hb1, hL1, hK1⟩).mono ?_
    · rintro s v W ⟨hi, hl, hk⟩ hp
      have hlt : w.heap.size + 1 < W.heap.size := (Array.getElem?_eq_some_iff.1 hl).1
      have hy := run_yield (P := P) (args := #[v]) hl (by rw [hrec]; exact hps.symm)
      rw [hrec] at hy
      refine ⟨fn, _, assign, body, hy, roundIn_of_wpIn hfn (hassign _ v W _ ⟨_, run_beginRound hl (by rw [hrec]), ?_⟩)⟩
      have hl2 : (W.putObj (w.heap.size + 1) (.loop { rec .ready none with state := .busy })).heap[w.heap.size + 1]? = some (.loop { rec .ready none with state := .busy }) := World.putObj_heap_same hlt
      have hk2 : (W.putObj (w.heap.size + 1) (.loop { rec .ready none with state := .busy })).heap[w.heap.size]? = some (.deferred (some [])) := (World.putObj_heap_other (by omega)).trans hk
      refine wpIn_mono (hbody _ s v _ (hI _ _ _ hi (below_put (by omega) hl)) (hPx _ _ _ _ _ _ hp hl rfl)) ?_
      rintro e a3 W3 ⟨rfl, hk3, hi3⟩
      have hl3 := hk3.same _ _ hl2 rfl
      have hr := run_endRound (P := P) none hl3
      rw [hrec] at hl3 hr
      refine ⟨_, _, hr, rfl, ?_⟩
      refine ⟨hI _ _ _ hi3 (below_put (by omega) hl3), ?_, (World.putObj_heap_other (by omega)).trans (hk3.same _ _ hk2 rfl)⟩
      rw [hrec]
      exact World.putObj_heap_same (Array.getElem?_eq_some_iff.1 hl3).1
    · rintro e W2 ⟨⟨v, rfl⟩, s, hS, hi, hl, hk⟩
      exact ⟨none, _, by have := run_endLoop (P := P) hl (by rw [hrec]; simp); rw [hrec] at this; exact this, hdone _ s _ (Nat.le_refl _) hS (hI _ _ _ hi (below_put (by omega) hl)) ((World.putObj_heap_other (by omega)).trans hk)⟩
end
structure GD where
  n : Nat
  M : Nat → Bool
  C : Nat → Nat → Bool
  N : List Int
def GD.need (d : GD) (i : Nat) : Int := d.N.getD i 0
structure GP where
  gp : Nat
  b1 : Nat
  b2 : Nat
  b3 : Nat
  m1 : Nat
  m2 : Nat
  M1 : Lit → Option Value
  M2 : Lit → Option Value
structure GrAt (w : World) (p : GP) (d : GD) : Prop where
  g : w.heap[p.gp]? = some (.cells #[.int .i64 (d.n : Int), .map (some p.b1), .map (some p.b2), .slice (some ⟨p.b3, 0, none⟩) d.n d.n] 165 (0, 0))
  mo : MapAt w Tryz.prog 3 p.b1 p.M1 p.m1
  mo1 : ∀ kl v, p.M1 kl = some v → ∃ i, i < d.n ∧ kl = .int .i64 (i : Int) ∧ d.M i = true
  mo2 : ∀ i, i < d.n → d.M i = true → (p.M1 (.int .i64 (i : Int))).isSome = true
  co : MapAt w Tryz.prog 166 p.b2 p.M2 p.m2
  co1 : ∀ k i, k < d.n → i < d.n → (p.M2 (k2 (k : Int) (i : Int))).getD (.bool false) = .bool (d.C k i)
  ne : w.heap[p.b3]? = some (.cells (intsL d.N).toArray 3 (0, 0))
  nl : d.N.length = d.n
  nz : d.n ≤ 1000
structure GP.lt (p : GP) (B : Nat) : Prop where
  gp : p.gp < B
  b1 : p.b1 < B
  b2 : p.b2 < B
  b3 : p.b3 < B
theorem GrAt.below {B : Nat} {w w' : World} {p : GP} {d : GD} (h : GrAt w p d) (hl : p.lt B) (hb : Below B w w') : GrAt w' p d :=
  ⟨(hb.block _ hl.gp).trans h.g, h.mo.same (hb.block _ hl.b1), h.mo1, h.mo2, h.co.same (hb.block _ hl.b2), h.co1, (hb.block _ hl.b3).trans h.ne, h.nl, h.nz⟩
structure LvI (w : World) (p : GP) (d : GD) (bo bx bn q1 q2 r : Nat) (L : List Int) : Prop where
  gr : GrAt w p d
  out : w.heap[bo]? = some (.cells (intsL L).toArray 3 (0, 0))
  bx : w.heap[bx]? = some (.cells #[.slice (some ⟨bo, 0, none⟩) d.n d.n] 26 (0, 0))
  bn : w.heap[bn]? = some (.cells #[.int .i64 ((r : Int) + 2)] 3 (0, 0))
  q1 : w.heap[q1]? = some (.cells #[.pointer (some ⟨p.gp, 0, none⟩)] 123 (0, 0))
  q2 : w.heap[q2]? = some (.cells #[.slice (some ⟨bo, 0, none⟩) d.n d.n] 26 (0, 0))
  rep : RepL d.M d.C d.need d.n r L
  rz : r + zerosL d.n L ≤ d.n
structure LvB (B : Nat) (p : GP) (bo bx bn q1 q2 : Nat) : Prop where
  lp : p.lt B
  lo : bo < B
  lx : bx < B
  ln : bn < B
  l1 : q1 < B
  l2 : q2 < B
  d1 : bo ≠ p.b3
  d2 : bo ≠ bn
  d3 : bn ≠ p.b3
theorem LvI.below {B : Nat} {w w' : World} {p : GP} {d : GD} {bo bx bn q1 q2 r : Nat} {L : List Int} (h : LvI w p d bo bx bn q1 q2 r L) (hl : LvB B p bo bx bn q1 q2) (hb : Below B w w') : LvI w' p d bo bx bn q1 q2 r L :=
  ⟨h.gr.below hl.lp hb, (hb.block _ hl.lo).trans h.out, (hb.block _ hl.lx).trans h.bx, (hb.block _ hl.ln).trans h.bn, (hb.block _ hl.l1).trans h.q1, (hb.block _ hl.l2).trans h.q2, h.rep, h.rz⟩
def natsL (l : List Nat) : List Value := l.map fun (i : Nat) => Value.int .i64 ((i : Nat) : Int)
theorem ints_cell {w : World} {b : Nat} {l : List Int} {t : TypeId} (h : w.heap[b]? = some (.cells (intsL l).toArray t (0, 0))) {i : Nat} (hi : i < l.length) : w.cell? ⟨b, i, none⟩ = some (.int .i64 (l.getD i 0)) := by
  refine load_block h ?_
  simp [intsL, List.getElem?_map, List.getElem?_eq_getElem hi, List.getD_eq_getElem?_getD]
end Go.Proofs.YtniklmikdkjgiaaGreatDoor
