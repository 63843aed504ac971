import Derived.Test.YtniklmikdkjgiaaGreatDoorcS3
import Derived.Test.YtniklmikdkjgiaaGreatDoorcTQ
import Derived.Test.YtniklmikdkjgiaaGreatDoorWD
set_option linter.all false
set_option maxHeartbeats 16000000
set_option maxRecDepth 100000
namespace Go.Proofs.YtniklmikdkjgiaaGreatDoor
open Go.RowKit Go.Shelf Go.Maps Go.ChangeMaps Go.MapKept Go.WideShapes Go.WideMaps
theorem tof_any (A : Option Addr) (n c : Nat) (l : List RV) (x : WoV) (w : World) (hn : n = l.length) (h : Rs w A l) (hx : WoIs w x) (hm : x.mods.length ≤ 1000000) (hk : x.keys.length ≤ 1000) (ht : Tab w) :
    Calls Tryz.prog 92 #[.slice A n c, woA x] w fun e w' => ∃ p : GP, e = .returned (.pointer (some ⟨p.gp, 0, none⟩)) ∧ GrAt w' p (gdT x l) ∧ p.lt w'.heap.size ∧ Below w.heap.size w w' := by
  have hl : n ≤ 100000 := by rw [hn]; exact h.len
  obtain ⟨V, hV⟩ : ∃ V, V = w.alloc (.cells (woL x).toArray 38) := ⟨_, rfl⟩
  obtain ⟨bw, hbw⟩ : ∃ bw, w.heap.size = bw := ⟨_, rfl⟩
  have BV : Below w.heap.size w V := by rw [hV]; exact (Below.refl _ _).alloc (Nat.le_refl _) _
  have XV : V.heap[bw]? = some (.cells (woL x).toArray 38 (0, 0)) := by rw [hV, ← hbw]; exact heap_alloc_new w _
  obtain ⟨A1, c1, e1, hr1⟩ := hx.ks
  obtain ⟨A2, c2, e2, hr2⟩ := hx.ms
  obtain ⟨nk, hnk⟩ : ∃ n, n = x.keys.length := ⟨_, rfl⟩
  obtain ⟨nm, hnm⟩ : ∃ n, n = x.mods.length := ⟨_, rfl⟩
  have Q1 : Hid (∀ u, OldB V u → u.cell? ⟨bw, 1, none⟩ = some (.slice A1 nk c1)) := Lib.hid (fun u hu => by
    have := load_block (i := 1) ((Below.block hu bw (lt_of_block XV)).trans XV) rfl
    rw [hnk, ← e1]; exact this)
  have Q2 : Hid (∀ u, OldB V u → u.cell? ⟨bw, 2, none⟩ = some (.slice A2 nm c2)) := Lib.hid (fun u hu => by
    have := load_block (i := 2) ((Below.block hu bw (lt_of_block XV)).trans XV) rfl
    rw [hnm, ← e2]; exact this)
  have Q3 : Hid (∀ u, OldB V u → u.cell? ⟨bw, 3, none⟩ = some (.int .i64 x.need)) := Lib.hid (fun u hu => load_block (i := 3) ((Below.block hu bw (lt_of_block XV)).trans XV) rfl)
  have QR : Hid (∀ u, OldB V u → u.rangeAt bw 0 (woL x)) := Lib.hid (fun u hu => by have := range_of_row ((Below.block hu bw (lt_of_block XV)).trans XV); simpa using this)
  have RM : Hid (∀ u, OldB V u → Rd u A2 (intsL x.mods)) := Lib.hid (fun u hu => (hr2.below BV).below hu)
  have ST : Hid (∀ u, OldB V u → Calls Tryz.prog 32 #[.slice A n c, woA x] u fun e w' => ∃ v, e = .returned v ∧ w'.ownsRow u.heap.size 42 4 v (entS x.mods l).length (stsL (entS x.mods l)) ∧ Below u.heap.size u w') := Lib.hid (fun u hu => status_any A n c l x u hn ((h.below BV).below hu) ((hx.below BV).below hu) hm ((ht.keep BV).keep hu))
  have RS : Hid (Rs V A l) := Lib.hid (h.below BV)
  have HTV : Hid (Tab V) := Lib.hid (ht.keep BV)
  have BVH := Lib.hid BV
  have HN := Lib.hid hn
  have NK := Lib.hid hnk
  have NM := Lib.hid hnm
  have nk1 : nk ≤ 1000 := by omega
  have nm1 : nm ≤ 1000000 := by omega
  have X0 := Lib.hid hV
  have X1 := Lib.hid hbw
  have SZ := Lib.hid (mwo_szL x)
  have ESF : Hid (∀ e ∈ entS x.mods l, (∃ A c, e.cur.edv = .slice A e.cur.edits.length c) ∧ e.id.length ≤ 16) := Lib.hid (fun e he => by
    obtain ⟨A, c, e1, -⟩ := (h.is _ (entS_from _ _ e he).cur).ed
    exact ⟨⟨A, c, e1⟩, by rw [(entS_from _ _ e he).id]; exact idC_len _⟩)
  have ESN : Hid (((entS x.mods l).map (·.id)).Nodup) := Lib.hid (entS_nodup _ _)
  have ESL : Hid ((entS x.mods l).length ≤ 100000) := Lib.hid (Nat.le_trans (entS_len _ _) h.len)
  have REV : Hid (revT x.mods l = revB (entS x.mods l)) := Lib.hid rfl
  unfold woA at ST ⊢
  have hmk : ∀ u : World, (Instr.makeSlice 26 (.int .i64 (nk : Int)) (.int .i64 (nk : Int))).run Tryz.prog u = .ok (.slice (some ⟨u.heap.size, 0, none⟩) nk nk) (u.alloc (.cells (intsL (List.replicate nk 0)).toArray 3)) := fun u => by
    have := mk_run (P := Tryz.prog) Tryz.underlying26 info_int nk (by omega) (by omega) u
    rw [Nat.mul_one] at this
    rw [this, ← made_ints]; rfl
  have mk1 : ∀ u : World, (Instr.makeMap 162 none).run Tryz.prog u = .ok (.map (some u.heap.size)) (u.alloc (.map #[] 0)) := fun u => run_makeMap _ _
  have mk2 : ∀ u : World, (Instr.makeMap 163 none).run Tryz.prog u = .ok (.map (some u.heap.size)) (u.alloc (.map #[] 0)) := fun u => run_makeMap _ _
  generalize (woL x) = xw at *
  generalize entS x.mods l = es at *
  clear h hx hm hk ht hV hbw BV XV hr1 hr2 e1 e2 hnk hnm hn
  go_enter Tryz.func92, Tryz.ntmps92
  go_upto_region 1 with fail
  rw [← X0.out, X1.out]
  go_cut [5] (fun s5 wx => ∃ gp b1 b2 b3, s5 = .pointer (some ⟨gp, 0, none⟩) ∧ Hid (OfA V wx nk gp b1 b2 b3 (modM [] nk) 0 (List.replicate nk 0)))
  case first =>
    as_aux_lemma =>
      have q1 := Q1.out
      (refine wp_region_noPanic ?_; refine wp_region_held_drew (S := (OldB V)) (by kernel_rfl) ?_ (fun hHeld => ?_); exact Below.drew (Below.refl _ _))
      (refine tkW 0 ?_; try simp only [gmS])
      (refine tkW 1 ?_; try simp only [gmS])
      (refine tkW 2 ?_; try simp only [gmS])
      (refine tkW 5 ?_; try simp only [gmS])
      (refine tkW 6 ?_; try simp only [gmS])
      (refine tkW 7 ?_; try simp only [gmS])
      (refine wpAnyH_ready (rs := [3, 4, 8]) (by kernel_rfl) (by simp) ?_; refine AllReadyH.cons (o := _) rfl (fun K hK => ?_) (AllReadyH.cons (o := _) rfl (fun K hK => ?_) (AllReadyH.cons (o := _) rfl (fun K hK => ?_) AllReadyH.nil)))
      · go_simp
        (refine hK.out _ _ (Below.alloc hHeld hHeld.size _) (fun hHeld2 => ?_); clear hK K hHeld; have hHeld := hHeld2; clear hHeld2; try simp only [gmS])
        (refine wpAnyH_ready (rs := [4, 8]) (by kernel_rfl) (by simp) ?_; refine AllReadyH.cons (o := _) rfl (fun K hK => ?_) (AllReadyH.cons (o := _) rfl (fun K hK => ?_) AllReadyH.nil))
        · go_simp
          (refine hK.out _ _ (Below.alloc hHeld hHeld.size _) (fun hHeld2 => ?_); clear hK K hHeld; have hHeld := hHeld2; clear hHeld2; try simp only [gmS])
          (refine rdW 8 (fun K hK => ?_); go_simp)
          (refine hK.out _ _ (Below.alloc hHeld hHeld.size _) (fun hHeld2 => ?_); clear hK K hHeld; have hHeld := hHeld2; clear hHeld2; try simp only [gmS])
          (refine tkW 9 ?_; try simp only [gmS])
          (refine rdW 10 (fun K hK => ?_); go_simp)
          (refine hK.out _ _ (Below.alloc hHeld hHeld.size _) (fun hHeld2 => ?_); clear hK K hHeld; have hHeld := hHeld2; clear hHeld2; try simp only [gmS])
          (refine tkW 11 ?_; try simp only [gmS])
          (refine wpAnyH_done (by kernel_rfl) ?_ _; refine NoPanic.normal ?_)
          have OH := Lib.hid hHeld
          clear hHeld q1
          go_wp2_with fail
          go_meet
          exact ⟨_, V.heap.size, V.heap.size + 1, V.heap.size + 1 + 1, rfl, Lib.hid (OfA.start OH.out (by rw [drew_heapT]; (repeat (first | ((with_reducible refine alloc_newT _ _ _ ?hn); case hn => (simp; done)) | ((with_reducible refine (alloc_old _ _ ?ho).trans ?_); case ho => (first | (simp; done) | (simp; omega)))))) (by rw [drew_heapT]; (repeat (first | ((with_reducible refine alloc_newT _ _ _ ?hn); case hn => (simp; done)) | ((with_reducible refine (alloc_old _ _ ?ho).trans ?_); case ho => (first | (simp; done) | (simp; omega)))))) (by rw [drew_heapT]; (repeat (first | ((with_reducible refine alloc_newT _ _ _ ?hn); case hn => (simp; done)) | ((with_reducible refine (alloc_old _ _ ?ho).trans ?_); case ho => (first | (simp; done) | (simp; omega)))))) (by rw [drew_heapT]; (repeat (first | ((with_reducible refine alloc_newT _ _ _ ?hn); case hn => (simp; done)) | ((with_reducible refine (alloc_old _ _ ?ho).trans ?_); case ho => (first | (simp; done) | (simp; omega)))))) (by simp; omega))⟩
        · go_simp
          (refine hK.out _ _ (Below.alloc hHeld hHeld.size _) (fun hHeld2 => ?_); clear hK K hHeld; have hHeld := hHeld2; clear hHeld2; try simp only [gmS])
          (refine rdW 4 (fun K hK => ?_); go_simp)
          (refine hK.out _ _ (Below.alloc hHeld hHeld.size _) (fun hHeld2 => ?_); clear hK K hHeld; have hHeld := hHeld2; clear hHeld2; try simp only [gmS])
          (refine tkW 9 ?_; try simp only [gmS])
          (refine rdW 10 (fun K hK => ?_); go_simp)
          (refine hK.out _ _ (Below.alloc hHeld hHeld.size _) (fun hHeld2 => ?_); clear hK K hHeld; have hHeld := hHeld2; clear hHeld2; try simp only [gmS])
          (refine tkW 11 ?_; try simp only [gmS])
          (refine wpAnyH_done (by kernel_rfl) ?_ _; refine NoPanic.normal ?_)
          have OH := Lib.hid hHeld
          clear hHeld q1
          go_wp2_with fail
          go_meet
          exact ⟨_, V.heap.size, V.heap.size + 1 + 1, V.heap.size + 1, rfl, Lib.hid (OfA.start OH.out (by rw [drew_heapT]; (repeat (first | ((with_reducible refine alloc_newT _ _ _ ?hn); case hn => (simp; done)) | ((with_reducible refine (alloc_old _ _ ?ho).trans ?_); case ho => (first | (simp; done) | (simp; omega)))))) (by rw [drew_heapT]; (repeat (first | ((with_reducible refine alloc_newT _ _ _ ?hn); case hn => (simp; done)) | ((with_reducible refine (alloc_old _ _ ?ho).trans ?_); case ho => (first | (simp; done) | (simp; omega)))))) (by rw [drew_heapT]; (repeat (first | ((with_reducible refine alloc_newT _ _ _ ?hn); case hn => (simp; done)) | ((with_reducible refine (alloc_old _ _ ?ho).trans ?_); case ho => (first | (simp; done) | (simp; omega)))))) (by rw [drew_heapT]; (repeat (first | ((with_reducible refine alloc_newT _ _ _ ?hn); case hn => (simp; done)) | ((with_reducible refine (alloc_old _ _ ?ho).trans ?_); case ho => (first | (simp; done) | (simp; omega)))))) (by simp; omega))⟩
      · go_simp
        (refine hK.out _ _ (Below.alloc hHeld hHeld.size _) (fun hHeld2 => ?_); clear hK K hHeld; have hHeld := hHeld2; clear hHeld2; try simp only [gmS])
        (refine wpAnyH_ready (rs := [3, 8]) (by kernel_rfl) (by simp) ?_; refine AllReadyH.cons (o := _) rfl (fun K hK => ?_) (AllReadyH.cons (o := _) rfl (fun K hK => ?_) AllReadyH.nil))
        · go_simp
          (refine hK.out _ _ (Below.alloc hHeld hHeld.size _) (fun hHeld2 => ?_); clear hK K hHeld; have hHeld := hHeld2; clear hHeld2; try simp only [gmS])
          (refine rdW 8 (fun K hK => ?_); go_simp)
          (refine hK.out _ _ (Below.alloc hHeld hHeld.size _) (fun hHeld2 => ?_); clear hK K hHeld; have hHeld := hHeld2; clear hHeld2; try simp only [gmS])
          (refine tkW 9 ?_; try simp only [gmS])
          (refine rdW 10 (fun K hK => ?_); go_simp)
          (refine hK.out _ _ (Below.alloc hHeld hHeld.size _) (fun hHeld2 => ?_); clear hK K hHeld; have hHeld := hHeld2; clear hHeld2; try simp only [gmS])
          (refine tkW 11 ?_; try simp only [gmS])
          (refine wpAnyH_done (by kernel_rfl) ?_ _; refine NoPanic.normal ?_)
          have OH := Lib.hid hHeld
          clear hHeld q1
          go_wp2_with fail
          go_meet
          exact ⟨_, V.heap.size + 1, V.heap.size, V.heap.size + 1 + 1, rfl, Lib.hid (OfA.start OH.out (by rw [drew_heapT]; (repeat (first | ((with_reducible refine alloc_newT _ _ _ ?hn); case hn => (simp; done)) | ((with_reducible refine (alloc_old _ _ ?ho).trans ?_); case ho => (first | (simp; done) | (simp; omega)))))) (by rw [drew_heapT]; (repeat (first | ((with_reducible refine alloc_newT _ _ _ ?hn); case hn => (simp; done)) | ((with_reducible refine (alloc_old _ _ ?ho).trans ?_); case ho => (first | (simp; done) | (simp; omega)))))) (by rw [drew_heapT]; (repeat (first | ((with_reducible refine alloc_newT _ _ _ ?hn); case hn => (simp; done)) | ((with_reducible refine (alloc_old _ _ ?ho).trans ?_); case ho => (first | (simp; done) | (simp; omega)))))) (by rw [drew_heapT]; (repeat (first | ((with_reducible refine alloc_newT _ _ _ ?hn); case hn => (simp; done)) | ((with_reducible refine (alloc_old _ _ ?ho).trans ?_); case ho => (first | (simp; done) | (simp; omega)))))) (by simp; omega))⟩
        · go_simp
          (refine hK.out _ _ (Below.alloc hHeld hHeld.size _) (fun hHeld2 => ?_); clear hK K hHeld; have hHeld := hHeld2; clear hHeld2; try simp only [gmS])
          (refine rdW 3 (fun K hK => ?_); go_simp)
          (refine hK.out _ _ (Below.alloc hHeld hHeld.size _) (fun hHeld2 => ?_); clear hK K hHeld; have hHeld := hHeld2; clear hHeld2; try simp only [gmS])
          (refine tkW 9 ?_; try simp only [gmS])
          (refine rdW 10 (fun K hK => ?_); go_simp)
          (refine hK.out _ _ (Below.alloc hHeld hHeld.size _) (fun hHeld2 => ?_); clear hK K hHeld; have hHeld := hHeld2; clear hHeld2; try simp only [gmS])
          (refine tkW 11 ?_; try simp only [gmS])
          (refine wpAnyH_done (by kernel_rfl) ?_ _; refine NoPanic.normal ?_)
          have OH := Lib.hid hHeld
          clear hHeld q1
          go_wp2_with fail
          go_meet
          exact ⟨_, V.heap.size + 1 + 1, V.heap.size, V.heap.size + 1, rfl, Lib.hid (OfA.start OH.out (by rw [drew_heapT]; (repeat (first | ((with_reducible refine alloc_newT _ _ _ ?hn); case hn => (simp; done)) | ((with_reducible refine (alloc_old _ _ ?ho).trans ?_); case ho => (first | (simp; done) | (simp; omega)))))) (by rw [drew_heapT]; (repeat (first | ((with_reducible refine alloc_newT _ _ _ ?hn); case hn => (simp; done)) | ((with_reducible refine (alloc_old _ _ ?ho).trans ?_); case ho => (first | (simp; done) | (simp; omega)))))) (by rw [drew_heapT]; (repeat (first | ((with_reducible refine alloc_newT _ _ _ ?hn); case hn => (simp; done)) | ((with_reducible refine (alloc_old _ _ ?ho).trans ?_); case ho => (first | (simp; done) | (simp; omega)))))) (by rw [drew_heapT]; (repeat (first | ((with_reducible refine alloc_newT _ _ _ ?hn); case hn => (simp; done)) | ((with_reducible refine (alloc_old _ _ ?ho).trans ?_); case ho => (first | (simp; done) | (simp; omega)))))) (by simp; omega))⟩
      · go_simp
        (refine hK.out _ _ (Below.alloc hHeld hHeld.size _) (fun hHeld2 => ?_); clear hK K hHeld; have hHeld := hHeld2; clear hHeld2; try simp only [gmS])
        (refine wpAnyH_ready (rs := [3, 4]) (by kernel_rfl) (by simp) ?_; refine AllReadyH.cons (o := _) rfl (fun K hK => ?_) (AllReadyH.cons (o := _) rfl (fun K hK => ?_) AllReadyH.nil))
        · go_simp
          (refine hK.out _ _ (Below.alloc hHeld hHeld.size _) (fun hHeld2 => ?_); clear hK K hHeld; have hHeld := hHeld2; clear hHeld2; try simp only [gmS])
          (refine rdW 4 (fun K hK => ?_); go_simp)
          (refine hK.out _ _ (Below.alloc hHeld hHeld.size _) (fun hHeld2 => ?_); clear hK K hHeld; have hHeld := hHeld2; clear hHeld2; try simp only [gmS])
          (refine tkW 9 ?_; try simp only [gmS])
          (refine rdW 10 (fun K hK => ?_); go_simp)
          (refine hK.out _ _ (Below.alloc hHeld hHeld.size _) (fun hHeld2 => ?_); clear hK K hHeld; have hHeld := hHeld2; clear hHeld2; try simp only [gmS])
          (refine tkW 11 ?_; try simp only [gmS])
          (refine wpAnyH_done (by kernel_rfl) ?_ _; refine NoPanic.normal ?_)
          have OH := Lib.hid hHeld
          clear hHeld q1
          go_wp2_with fail
          go_meet
          exact ⟨_, V.heap.size + 1, V.heap.size + 1 + 1, V.heap.size, rfl, Lib.hid (OfA.start OH.out (by rw [drew_heapT]; (repeat (first | ((with_reducible refine alloc_newT _ _ _ ?hn); case hn => (simp; done)) | ((with_reducible refine (alloc_old _ _ ?ho).trans ?_); case ho => (first | (simp; done) | (simp; omega)))))) (by rw [drew_heapT]; (repeat (first | ((with_reducible refine alloc_newT _ _ _ ?hn); case hn => (simp; done)) | ((with_reducible refine (alloc_old _ _ ?ho).trans ?_); case ho => (first | (simp; done) | (simp; omega)))))) (by rw [drew_heapT]; (repeat (first | ((with_reducible refine alloc_newT _ _ _ ?hn); case hn => (simp; done)) | ((with_reducible refine (alloc_old _ _ ?ho).trans ?_); case ho => (first | (simp; done) | (simp; omega)))))) (by rw [drew_heapT]; (repeat (first | ((with_reducible refine alloc_newT _ _ _ ?hn); case hn => (simp; done)) | ((with_reducible refine (alloc_old _ _ ?ho).trans ?_); case ho => (first | (simp; done) | (simp; omega)))))) (by simp; omega))⟩
        · go_simp
          (refine hK.out _ _ (Below.alloc hHeld hHeld.size _) (fun hHeld2 => ?_); clear hK K hHeld; have hHeld := hHeld2; clear hHeld2; try simp only [gmS])
          (refine rdW 3 (fun K hK => ?_); go_simp)
          (refine hK.out _ _ (Below.alloc hHeld hHeld.size _) (fun hHeld2 => ?_); clear hK K hHeld; have hHeld := hHeld2; clear hHeld2; try simp only [gmS])
          (refine tkW 9 ?_; try simp only [gmS])
          (refine rdW 10 (fun K hK => ?_); go_simp)
          (refine hK.out _ _ (Below.alloc hHeld hHeld.size _) (fun hHeld2 => ?_); clear hK K hHeld; have hHeld := hHeld2; clear hHeld2; try simp only [gmS])
          (refine tkW 11 ?_; try simp only [gmS])
          (refine wpAnyH_done (by kernel_rfl) ?_ _; refine NoPanic.normal ?_)
          have OH := Lib.hid hHeld
          clear hHeld q1
          go_wp2_with fail
          go_meet
          exact ⟨_, V.heap.size + 1 + 1, V.heap.size + 1, V.heap.size, rfl, Lib.hid (OfA.start OH.out (by rw [drew_heapT]; (repeat (first | ((with_reducible refine alloc_newT _ _ _ ?hn); case hn => (simp; done)) | ((with_reducible refine (alloc_old _ _ ?ho).trans ?_); case ho => (first | (simp; done) | (simp; omega)))))) (by rw [drew_heapT]; (repeat (first | ((with_reducible refine alloc_newT _ _ _ ?hn); case hn => (simp; done)) | ((with_reducible refine (alloc_old _ _ ?ho).trans ?_); case ho => (first | (simp; done) | (simp; omega)))))) (by rw [drew_heapT]; (repeat (first | ((with_reducible refine alloc_newT _ _ _ ?hn); case hn => (simp; done)) | ((with_reducible refine (alloc_old _ _ ?ho).trans ?_); case ho => (first | (simp; done) | (simp; omega)))))) (by rw [drew_heapT]; (repeat (first | ((with_reducible refine alloc_newT _ _ _ ?hn); case hn => (simp; done)) | ((with_reducible refine (alloc_old _ _ ?ho).trans ?_); case ho => (first | (simp; done) | (simp; omega)))))) (by simp; omega))⟩
  case rest =>
    obtain ⟨gp, b1, b2, b3, rfl, HA⟩ := hcut
    have ow := HA.out.bel
    have q2 := Q2.out _ ow
    have S1 : Hid (OfA V wc nk gp b1 b2 b3 (modM (x.mods.take 0) nk) 0 (List.replicate nk 0)) := Lib.hid (by rw [List.take_zero]; exact HA.out)
    clear HA ow hmk mk1 mk2
    go_wp2_with fail
    go_loopw [7, 40] (fun s7 s40 wr => ∃ k : Nat, k ≤ nm ∧ s40 = .int .i64 (k : Int) ∧ (∃ p, s7 = p) ∧ ∃ m1, m1 ≤ k ∧ Hid (OfA V wr nk gp b1 b2 b3 (modM (x.mods.take k) nk) m1 (List.replicate nk 0))) (fun _ i _ => nm - (intOf i).toNat)
    case atStart => exact ⟨0, Nat.zero_le _, rfl, ⟨_, rfl⟩, 0, Nat.le_refl _, S1⟩
    case round =>
      clear S1 q2
      obtain ⟨k, hk, rfl, ⟨p7, rfl⟩, m1, hm1, HA⟩ := hrel
      by_cases hlt : k < nm
      · --<b
        have hkl : k < x.mods.length := by rw [← NM.out]; exact hlt
        have d1 : (k : Int) < (nm : Int) := by omega
        have d2 : (0 : Int) ≤ (k : Int) := by omega
        obtain ⟨b, off, rfl, hb, hc⟩ := RM.out wr HA.out.bel (by unfold intsL; rw [List.length_map]; omega)
        have ck := hc k (.int .i64 x.mods[k]) (by unfold intsL; rw [List.getElem?_map, List.getElem?_eq_getElem hkl]; rfl)
        have TK : Hid (x.mods.take (k + 1) = x.mods.take k ++ [x.mods[k]]) := Lib.hid (List.take_succ_eq_append_getElem hkl)
        have cg : wr.cell? ⟨gp, 0, none⟩ = some (.int .i64 (nk : Int)) := load_block (i := 0) HA.out.g rfl
        have cm : wr.cell? ⟨gp, 1, none⟩ = some (.map (some b1)) := load_block (i := 1) HA.out.g rfl
        clear hc
        generalize x.mods[k] = m at *
        by_cases h0 : 0 ≤ m
        · by_cases h1 : m < (nk : Int)
          · obtain ⟨w8, hup, hm8, hg8⟩ := HA.out.a1.upd intK Tryz.underlying162 (by unfold maxLen; omega) (key_int (a := m) (by omega)) (.bool true)
            rw [modM_in h0 h1, ← TK.out] at hm8
            have H8 := Lib.hid (HA.out.up1 hm8 hg8)
            clear hm8 hg8 TK
            go_wp2_with fail
            exact ⟨⟨k + 1, by omega, by go_num, ⟨_, rfl⟩, _, by split <;> omega, H8⟩, by simp [intOf]; omega⟩
          · have MO := Lib.hid (modM_out (ms := x.mods.take k) (n := nk) (m := m) (fun hh => h1 hh.2))
            rw [← TK.out] at MO
            clear TK
            go_wp2_with fail
            exact ⟨⟨k + 1, by omega, by go_num, ⟨_, rfl⟩, m1, by omega, by rw [MO.out]; exact HA⟩, by simp [intOf]; omega⟩
        · have MO := Lib.hid (modM_out (ms := x.mods.take k) (n := nk) (m := m) (fun hh => h0 hh.1))
          rw [← TK.out] at MO
          clear TK
          go_wp2_with fail
          exact ⟨⟨k + 1, by omega, by go_num, ⟨_, rfl⟩, m1, by omega, by rw [MO.out]; exact HA⟩, by simp [intOf]; omega⟩
      · obtain rfl : k = nm := by omega
        have d1 : ¬ (k : Int) < (k : Int) := by omega
        have cg : wr.cell? ⟨gp, 0, none⟩ = some (.int .i64 (nk : Int)) := load_block (i := 0) HA.out.g rfl
        have S2 : Hid (OfA V wr nk gp b1 b2 b3 (modM x.mods nk) m1 (nsU (baseT x.need) nk 0)) := Lib.hid (by
          have := HA.out
          rw [List.take_of_length_le (by rw [← NM.out]; exact Nat.le_refl _)] at this
          rw [nsU_zero]; exact this)
        clear HA
        go_wp2_with fail
        go_loopw [8, 64] (fun s8 s64 wr => ∃ j : Nat, j ≤ nk ∧ s64 = .int .i64 (j : Int) ∧ (∃ p, s8 = p) ∧ Hid (OfA V wr nk gp b1 b2 b3 (modM x.mods nk) m1 (nsU (baseT x.need) nk j))) (fun _ i _ => nk - (intOf i).toNat)
        case atStart => exact ⟨0, Nat.zero_le _, rfl, ⟨_, rfl⟩, S2⟩
        case round =>
          clear S2 cg
          obtain ⟨j, hj, rfl, ⟨p8, rfl⟩, HA⟩ := hrel
          by_cases hlt2 : j < nk
          · --<c
            have d3 : (j : Int) < (nk : Int) := by omega
            have d4 : (0 : Int) ≤ (j : Int) := by omega
            go_upto_region 11 with fail
            have c3 : wr.cell? ⟨gp, 3, none⟩ = some (.slice (some ⟨b3, 0, none⟩) nk nk) := load_block (i := 3) HA.out.g rfl
            have c4 : wr.cell? ⟨bw, 3, none⟩ = some (.int .i64 x.need) := Q3.out _ HA.out.bel
            have c5 := ints_cell HA.out.ne (i := j) (by rw [nsU_len]; exact hlt2)
            have f5 := free_blk HA.out.ne j
            (refine wp_region_noPanic ?_; refine wp_region_held_drew (S := (fun _ => True)) (by kernel_rfl) ?_ (fun hHeld => ?_); exact trivial)
            (refine tkW 0 ?_; try simp only [gmS])
            (refine tkW 1 ?_; try simp only [gmS])
            (refine tkW 2 ?_; try simp only [gmS])
            (refine tkW 4 ?_; try simp only [gmS])
            (refine tkW 5 ?_; try simp only [gmS])
            (refine wpAnyH_ready (rs := [3, 6]) (by kernel_rfl) (by simp) ?_; refine AllReadyH.cons (o := _) rfl (fun K hK => ?_) (AllReadyH.cons (o := _) rfl (fun K hK => ?_) AllReadyH.nil))
            · go_simp
              (refine hK.out _ _ trivial (fun hHeld2 => ?_); clear hK K hHeld; have hHeld := hHeld2; clear hHeld2; try simp only [gmS])
              (refine rdW 6 (fun K hK => ?_); go_simp)
              (refine hK.out _ _ trivial (fun hHeld2 => ?_); clear hK K hHeld; have hHeld := hHeld2; clear hHeld2; try simp only [gmS])
              (refine tkW 7 ?_; try simp only [gmS])
              (refine tkW 8 ?_; try simp only [gmS])
              (refine tkW 9 ?_; try simp only [gmS])
              (refine rdW 10 (fun K hK => ?_); go_simp)
              (refine hK.out _ _ trivial (fun hHeld2 => ?_); clear hK K hHeld; have hHeld := hHeld2; clear hHeld2; try simp only [gmS])
              (refine wpAnyH_done (by kernel_rfl) ?_ _; refine NoPanic.normal ?_)
              have O2 : Hid (OfA V ((wr.setCell ⟨b3, j, none⟩ (.int .i64 (baseT x.need))).drew) nk gp b1 b2 b3 (modM x.mods nk) m1 (nsU (baseT x.need) nk (j + 1))) := Lib.hid (by rw [← nsU_set]; exact (HA.out.setN j _).keep (Below.drew (Below.refl _ _)))
              clear hHeld c3 c4 c5 f5 HA
              go_wp2_with fail
              exact ⟨⟨j + 1, by omega, by go_num, ⟨_, rfl⟩, O2⟩, by simp [intOf]; omega⟩
            · go_simp
              (refine hK.out _ _ trivial (fun hHeld2 => ?_); clear hK K hHeld; have hHeld := hHeld2; clear hHeld2; try simp only [gmS])
              (refine tkW 7 ?_; try simp only [gmS])
              (refine tkW 8 ?_; try simp only [gmS])
              (refine rdW 3 (fun K hK => ?_); go_simp)
              (refine hK.out _ _ trivial (fun hHeld2 => ?_); clear hK K hHeld; have hHeld := hHeld2; clear hHeld2; try simp only [gmS])
              (refine tkW 9 ?_; try simp only [gmS])
              (refine rdW 10 (fun K hK => ?_); go_simp)
              (refine hK.out _ _ trivial (fun hHeld2 => ?_); clear hK K hHeld; have hHeld := hHeld2; clear hHeld2; try simp only [gmS])
              (refine wpAnyH_done (by kernel_rfl) ?_ _; refine NoPanic.normal ?_)
              have O2 : Hid (OfA V ((wr.setCell ⟨b3, j, none⟩ (.int .i64 (baseT x.need))).drew) nk gp b1 b2 b3 (modM x.mods nk) m1 (nsU (baseT x.need) nk (j + 1))) := Lib.hid (by rw [← nsU_set]; exact (HA.out.setN j _).keep (Below.drew (Below.refl _ _)))
              clear hHeld c3 c4 c5 f5 HA
              go_wp2_with fail
              exact ⟨⟨j + 1, by omega, by go_num, ⟨_, rfl⟩, O2⟩, by simp [intOf]; omega⟩
          · obtain rfl : nk = j := by omega
            have d3 : ¬ (nk : Int) < (nk : Int) := by omega
            obtain ⟨b4, hb4⟩ : ∃ b, wr.heap.size = b := ⟨_, rfl⟩
            obtain ⟨X, hX⟩ : ∃ X, X = wr.alloc (.map #[] 0) := ⟨_, rfl⟩
            have BX : Below wr.heap.size wr X := by rw [hX]; exact (Below.refl _ _).alloc (Nat.le_refl _) _
            have XM : X.heap[b4]? = some (.map #[] 0) := by rw [hX]; exact alloc_newT _ _ _ hb4.symm
            have OX := HA.out.keep BX
            have MX : MapAt X Tryz.prog 9 b4 (revM []) 0 := by rw [revM_nil]; exact MapAt.empty XM
            have hgp4 : gp < b4 := by rw [← hb4]; exact lt_of_block HA.out.g
            have RX := Lib.hid (QR.out X OX.bel)
            have STX := Lib.hid (ST.out X OX.bel)
            have OXH := Lib.hid OX
            have MXH := Lib.hid MX
            have HX := Lib.hid hX
            have HB4 := Lib.hid hb4
            have XMH := Lib.hid (lt_of_block XM)
            have mk3 : ∀ u : World, (Instr.makeMap 62 none).run Tryz.prog u = .ok (.map (some u.heap.size)) (u.alloc (.map #[] 0)) := fun u => run_makeMap _ _
            clear hX hb4 BX XM OX MX HA ST QR Q1 Q2 Q3 RM X0 X1 NM
            go_upto_region 14 with fail
            rw [← HX.out, HB4.out]
            clear mk3 HX HB4
            go_wp2_with (refine wpList_load_mid rfl 38 (.tmp 3) rfl bw 0 rfl xw _ RX.out Tryz.underlying38 rfl SZ.out ?_)
            (with_reducible refine STX.out.mono ?_)
            rintro e u1 ⟨v, rfl, ho, b1'⟩
            obtain ⟨A4, c4, rfl, hR, hG⟩ := own_slB ho
            obtain ⟨ns, hns⟩ : ∃ m, es.length = m := ⟨_, rfl⟩
            have NS := Lib.hid hns
            have hns1 : ns ≤ 100000 := by rw [← hns]; exact ESL.out
            rw [hns]
            have OC0 : Hid (OfC V u1 u1 nk gp b1 b2 b3 b4 (modM x.mods nk) m1 (nsU (baseT x.need) nk nk) (es.take 0) 0) := Lib.hid ⟨OXH.out.keep b1', by rw [List.take_zero]; exact MXH.out.same (b1'.block _ XMH.out), But.refl _ _, hgp4⟩
            have RH := Lib.hid hR
            have GH : Hid (∀ ad, A4 = some ad → b4 < ad.block) := Lib.hid (fun ad h => Nat.lt_of_lt_of_le XMH.out (hG ad h))
            clear ho hR hG b1' STX RX OXH MXH XMH hns ESL
            go_wp2_with fail
            go_loopw [11, 83] (fun s11 s83 wr => ∃ k : Nat, k ≤ ns ∧ s83 = .int .i64 (k : Int) ∧ (∃ p, s11 = p) ∧ ∃ m3, m3 ≤ k ∧ Hid (OfC V u1 wr nk gp b1 b2 b3 b4 (modM x.mods nk) m1 (nsU (baseT x.need) nk nk) (es.take k) m3)) (fun _ i _ => ns - (intOf i).toNat)
            case atStart => exact ⟨0, Nat.zero_le _, rfl, ⟨_, rfl⟩, 0, Nat.le_refl _, OC0⟩
            case round =>
              clear OC0
              obtain ⟨k, hk, rfl, ⟨p11, rfl⟩, m3, hm3, HC⟩ := hrel
              by_cases hlt3 : k < ns
              · --<d
                have hkl : k < es.length := by rw [NS.out]; exact hlt3
                have d5 : (k : Int) < (ns : Int) := by omega
                have d6 : (0 : Int) ≤ (k : Int) := by omega
                obtain ⟨b, off, rfl, hb, hc⟩ := rd_rows 4 (by decide) (fun _ => rfl) RH.out hkl
                have hbb := GH.out _ rfl
                dsimp only at hbb
                have CW : Hid (wr.rangeAt b (off + k * 4) (stL es[k])) := Lib.hid (fun j v hj => (World.cell?_of_block (w := u1) (HC.out.bt.block b hb (by show ¬ b = b4; omega))).trans (hc j v hj))
                obtain ⟨⟨A9, c9, e9⟩, il⟩ := ESF.out es[k] (List.getElem_mem hkl)
                have ONE : Hid ((stL es[k]).toArray.all (·.oneCell') = true) := Lib.hid (by unfold stL; rw [e9]; simp [Value.oneCell'])
                have TK : Hid (es.take (k + 1) = es.take k ++ [es[k]]) := Lib.hid (List.take_succ_eq_append_getElem hkl)
                have NH := hasS_take ESN.out hkl
                clear hc e9
                generalize es[k] = e at *
                have RS4 := revM_snoc NH
                rw [← TK.out] at RS4
                obtain ⟨X, hX⟩ : ∃ X, X = wr.alloc (.cells (stL e).toArray 42) := ⟨_, rfl⟩
                obtain ⟨bx, hbx⟩ : ∃ bx, wr.heap.size = bx := ⟨_, rfl⟩
                have BX : OldB wr X := by rw [hX]; exact (Below.refl _ _).alloc (Nat.le_refl _) _
                have XX : X.heap[bx]? = some (.cells (stL e).toArray 42 (0, 0)) := by rw [hX, ← hbx]; exact heap_alloc_new wr _
                have k0 : X.cell? ⟨bx, 0, none⟩ = some (.string (mkB e.id)) := load_block (i := 0) XX rfl
                have k1 : X.cell? ⟨bx, 1, none⟩ = some (.int .i64 e.st) := load_block (i := 1) XX rfl
                have CX := HC.out.keep BX
                obtain ⟨bv, hbv⟩ : ∃ bv, (e.st == 3) = bv := ⟨_, rfl⟩
                have hbv2 : decide (e.st = 3) = bv := hbv
                obtain ⟨w8, hup, hm8, hg8⟩ := CX.mp.upd strK Tryz.underlying62 (by unfold maxLen; omega) (key_str e.id (Nat.le_trans il (by decide))) (.bool bv)
                rw [← hbv2, RS4] at hm8
                have H8 := Lib.hid (CX.up3 hm8 hg8)
                have FS := Lib.hid (setCells_freshG (P := Tryz.prog) wr 42 [.string ⟨#[]⟩, .int .i64 0, .string ⟨#[]⟩, .slice none 0 0] (stL e) (by kernel_rfl) rfl ONE.out)
                have X1 := Lib.hid hbx
                have X0 := Lib.hid hX
                clear hX hbx BX XX CX hm8 hg8 RS4 NH TK hbb GH RH
                go_wp2_with (first
                  | (refine wpList_load_mid rfl 42 (.tmp 85) rfl b (off + k * 4) rfl (stL e) _ CW.out Tryz.underlying42 rfl (by kernel_rfl) ?_)
                  | (refine wpList_store_mid rfl 42 (.tmp 11) (.tmp 86) rfl wr.heap.size 0 (stL e).toArray rfl rfl (there_of_row (heap_alloc_new wr _) (Nat.le_refl 4)) (by kernel_rfl) ONE.out ?_; rw [List.toList_toArray, FS.out, ← X0.out, X1.out]))
                exact ⟨⟨k + 1, by omega, by go_num, ⟨_, rfl⟩, _, by split <;> omega, H8⟩, by simp [intOf]; omega⟩
              · obtain rfl : ns = k := by omega
                have d5 : ¬ (ns : Int) < (ns : Int) := by omega
                have TT : es.take ns = es := List.take_of_length_le (by rw [NS.out]; exact Nat.le_refl _)
                rw [TT] at HC
                obtain ⟨b5, hb5⟩ : ∃ b, wr.heap.size = b := ⟨_, rfl⟩
                obtain ⟨X, hX⟩ : ∃ X, X = (wr.alloc (.map #[] 0)).alloc (.map #[] 0) := ⟨_, rfl⟩
                have BX : Below wr.heap.size wr X := by rw [hX]; exact ((Below.refl _ _).alloc (Nat.le_refl _) _).alloc (by simp) _
                have XM5 : X.heap[b5]? = some (.map #[] 0) := by rw [hX]; exact (alloc_old _ _ (by simp [← hb5])).trans (alloc_newT _ _ _ hb5.symm)
                have XM6 : X.heap[b5 + 1]? = some (.map #[] 0) := by rw [hX]; exact alloc_newT _ _ _ (by simp [← hb5])
                have CX := HC.out.keep BX
                obtain ⟨b6, hb6⟩ : ∃ b, b5 + 1 = b := ⟨_, rfl⟩
                rw [hb6] at XM6
                have h45 : b4 < b5 := by rw [← hb5]; exact HC.out.mp.lt
                have R0 : Hid (OfR V X nk ⟨gp, b1, b2, b3, b4, b5, b6⟩ x.mods es m1 m3 (baseT x.need) (tsF (revB es) (l.take 0)) 0) := Lib.hid ⟨_, 0, 0, Nat.le_refl _, Nat.le_refl _, by
                  have := OfB.start CX.of CX.mp XM5 XM6 CX.hi h45 (show b5 < b6 by omega)
                  rw [← ndL_nil] at this
                  rw [List.take_zero]; exact this, by rw [List.take_zero]; exact LastM.nil⟩
                have HX := Lib.hid hX
                have HB5 := Lib.hid hb5
                have HB6 := Lib.hid hb6
                have mk5 : ∀ u : World, (Instr.makeMap 169 none).run Tryz.prog u = .ok (.map (some u.heap.size)) (u.alloc (.map #[] 0)) := fun u => run_makeMap _ _
                have mk6 : ∀ u : World, (Instr.makeMap 170 none).run Tryz.prog u = .ok (.map (some u.heap.size)) (u.alloc (.map #[] 0)) := fun u => run_makeMap _ _
                clear hX hb5 hb6 BX XM5 XM6 CX HC TT h45 RH GH NS ESF ESN
                go_upto_region 21 with fail
                rw [← HX.out]
                try simp only [World.size_alloc]
                rw [HB5.out, HB6.out]
                clear mk5 mk6 HX HB5 HB6
                go_wp2_with fail
                obtain ⟨base, hbase⟩ : ∃ b, b = baseT x.need := ⟨_, rfl⟩
                have BASE : Hid (base = baseT x.need) := Lib.hid hbase
                rw [← hbase] at R0
                have hba := baseT_le x.need
                rw [← hbase] at hba
                have HBA := Lib.hid hba
                clear hbase hba
                go_loopw [15, 16, 17, 18, 19, 20, 21, 98] (fun s15 s16 s17 s18 s19 s20 s21 s98 wr => ∃ k : Nat, k ≤ n ∧ s98 = .int .i64 (k : Int) ∧ (∃ p, s15 = p) ∧ (∃ p, s16 = p) ∧ (∃ p, s17 = p) ∧ (∃ p, s18 = p) ∧ (∃ p, s19 = p) ∧ (∃ p, s20 = p) ∧ (∃ p, s21 = p) ∧ Hid (OfR V wr nk ⟨gp, b1, b2, b3, b4, b5, b6⟩ x.mods es m1 m3 base (tsF (revB es) (l.take k)) k)) (fun _ _ _ _ _ _ _ i _ => n - (intOf i).toNat)
                case atStart => exact ⟨0, Nat.zero_le _, rfl, ⟨_, rfl⟩, ⟨_, rfl⟩, ⟨_, rfl⟩, ⟨_, rfl⟩, ⟨_, rfl⟩, ⟨_, rfl⟩, ⟨_, rfl⟩, R0⟩
                case round =>
                  clear R0
                  obtain ⟨k, hk, rfl, ⟨p15, rfl⟩, ⟨p16, rfl⟩, ⟨p17, rfl⟩, ⟨p18, rfl⟩, ⟨p19, rfl⟩, ⟨p20, rfl⟩, ⟨p21, rfl⟩, HR⟩ := hrel
                  by_cases hlt4 : k < n
                  · --<e
                    have hkl : k < l.length := by rw [← HN.out]; exact hlt4
                    have d7 : (k : Int) < (n : Int) := by omega
                    have d8 : (0 : Int) ≤ (k : Int) := by omega
                    have OW : OldB V wr := HR.out.bel
                    have ST : Hid (tsF (revB es) (l.take (k + 1)) = tstep (revB es) (tsF (revB es) (l.take k)) l[k]) := Lib.hid (tsF_take _ l hkl)
                    have NDL : Hid ((tsF (revB es) (l.take k)).nd.length ≤ k) := Lib.hid (nd_len _ l k (by omega))
                    generalize tsF (revB es) (l.take k) = s at *
                    obtain ⟨s', hs'⟩ : ∃ s', tsF (revB es) (l.take (k + 1)) = s' := ⟨_, rfl⟩
                    have SP := Lib.hid hs'
                    rw [hs'] at ST
                    clear hs'
                    obtain ⟨b, off, rfl, hb, hc⟩ := rvs_at (RS.out.rd.below OW) hkl
                    have HI := RS.out.is l[k] (List.getElem_mem hkl)
                    have HS := RS.out.sz l[k] (List.getElem_mem hkl)
                    generalize l[k] = r at *
                    have ONE := Lib.hid (rvL_one r ⟨_, HI⟩)
                    have HC : Hid (wr.rangeAt b (off + k * 21) (rvL r)) := Lib.hid (fun j v hj => hc j v hj)
                    obtain ⟨X, hX⟩ : ∃ X, X = wr.alloc (.cells (rvL r).toArray 56) := ⟨_, rfl⟩
                    obtain ⟨bx, hbx⟩ : ∃ bx, wr.heap.size = bx := ⟨_, rfl⟩
                    have BX : OldB wr X := by rw [hX]; exact (Below.refl _ _).alloc (Nat.le_refl _) _
                    have XX : X.heap[bx]? = some (.cells (rvL r).toArray 56 (0, 0)) := by rw [hX, ← hbx]; exact heap_alloc_new wr _
                    have XL := lt_of_block XX
                    have RX : Hid (∀ u, OldB X u → u.rangeAt bx 0 (rvL r)) := Lib.hid (fun u hu => by have := range_of_row ((hu.block bx XL).trans XX); simpa using this)
                    have XXH : Hid (∀ u, OldB X u → u.heap[bx]? = some (.cells (rvL r).toArray 56 (0, 0))) := Lib.hid (fun u hu => (hu.block bx XL).trans XX)
                    have k0 : Hid (∀ u, OldB X u → u.cell? ⟨bx, 0, none⟩ = some (.int .i64 r.kind)) := Lib.hid (fun u hu => load_block (i := 0) (XXH.out u hu) rfl)
                    have k1 : Hid (∀ u, OldB X u → u.cell? ⟨bx, 1, none⟩ = some (.int .i64 r.author)) := Lib.hid (fun u hu => load_block (i := 1) (XXH.out u hu) rfl)
                    have k7 : Hid (∀ u, OldB X u → u.cell? ⟨bx, 7, none⟩ = some (.string (mkB r.target))) := Lib.hid (fun u hu => load_block (i := 7) (XXH.out u hu) rfl)
                    have VX : OldB V X := OW.then BX
                    have SW : OldB X X := Below.refl _ _
                    have RX4 := Lib.hid (HR.out.keep BX)
                    have VC := Lib.hid (rvalid_any r X (HI.below VX) HS (HTV.out.keep VX))
                    have IDC : Hid (∀ u, OldB X u → Calls Tryz.prog 37 #[.agg (rvL r).toArray] u fun e w' => e = .returned (.string (mkB (idC r.c))) ∧ Below u.heap.size u w') := Lib.hid (fun u hu => id_any r u (HI.below (VX.then hu)) HS (HTV.out.keep (VX.then hu)))
                    unfold rvA at VC
                    have b6x : Hid (b6 < bx) := Lib.hid (by
                      obtain ⟨M5, m4, m5, -, -, EB, -⟩ := HR.out
                      have := EB.hi
                      rw [hbx] at this; exact this)
                    have X1 := Lib.hid hbx
                    have X0 := Lib.hid hX
                    have HIH := Lib.hid HI
                    have HSH := Lib.hid HS
                    have FS := Lib.hid (fun z (hz : z.length = 21) => setCells_fresh wr z (rvL r) hz rfl ONE.out)
                    clear hc HI HS hX hbx XX XL BX OW HR
                    go_wp2_with (first
                        | (refine wpList_load_mid rfl 56 (.tmp 100) rfl b (off + k * 21) rfl (rvL r) _ HC.out Tryz.underlying56 rfl (mrec_szL r) ?_)
                        | (refine wpList_store_mid rfl 56 (.tmp 15) (.tmp 101) rfl wr.heap.size 0 (rvL r).toArray rfl rfl (there_of_row (heap_alloc_new wr _) (Nat.le_refl 21)) (mrec_szA r) ONE.out ?_; rw [List.toList_toArray, FS.out _ rfl, ← X0.out, X1.out])
                        | (refine wpList_load_mid rfl 56 (.tmp 15) rfl bx 0 rfl (rvL r) _ (RX.out X SW) Tryz.underlying56 rfl (mrec_szL r) ?_))
                    (with_reducible refine VC.out.mono ?_)
                    rintro e u1 ⟨rfl, b1'⟩
                    have O1 : OldB X u1 := b1'
                    have R1 := Lib.hid (RX4.out.keep b1')
                    clear b1' RX4 VC X0 X1 FS HC ONE SW
                    cases hv : validR r.c
                    · have TK : Hid (s' = s) := Lib.hid (by rw [ST.out]; exact tstep_no (by rw [hv]; decide))
                      have RN : Hid (OfR V u1 nk ⟨gp, b1, b2, b3, b4, b5, b6⟩ x.mods es m1 m3 base s' (k + 1)) := Lib.hid (by rw [TK.out]; exact R1.out.next)
                      clear hv ST R1
                      go_wp2_with fail
                      exact ⟨⟨k + 1, by omega, by go_num, ⟨_, rfl⟩, ⟨_, rfl⟩, ⟨_, rfl⟩, ⟨_, rfl⟩, ⟨_, rfl⟩, ⟨_, rfl⟩, ⟨_, rfl⟩, by rw [SP.out]; exact RN⟩, by simp [intOf]; omega⟩
                    · obtain ⟨a, ha⟩ : ∃ a : Nat, r.author = (a : Int) := ⟨r.author.toNat, by have := validR_au hv; have e : r.c.author = r.author := rfl; omega⟩
                      have ha59 : Hid (a ≤ 59) := Lib.hid (by have := validR_au hv; have e : r.c.author = r.author := rfl; omega)
                      have HA := Lib.hid ha
                      have HV := Lib.hid hv
                      have k0u := k0.out u1 O1
                      clear hv ha
                      by_cases h1 : r.kind = 1
                      · --<e1
                        have g1 : (r.kind == 1) = true := by rw [h1]; rfl
                        have H1 := Lib.hid h1
                        have IL : Hid ((idC r.c).length ≤ 1000000) := Lib.hid (Nat.le_trans (idC_len r.c) (by decide))
                        clear h1
                        go_wp2_with (refine wpList_load_mid rfl 56 (.tmp 15) rfl bx 0 rfl (rvL r) _ (RX.out u1 O1) Tryz.underlying56 rfl (mrec_szL r) ?_)
                        (with_reducible refine (IDC.out u1 O1).mono ?_)
                        rintro e u2 ⟨rfl, b2'⟩
                        have O2 : OldB X u2 := O1.then b2'
                        have R2 := Lib.hid (R1.out.keep b2')
                        clear b2' R1 k0u g1
                        obtain ⟨M5, m4, m5, hm4, hm5, EB0, LM0⟩ := R2.out
                        have EB := Lib.hid EB0
                        have LM := Lib.hid LM0
                        have A4 : Hid (MapAt u2 Tryz.prog 9 b5 (auM s.au) m4) := Lib.hid EB0.a4
                        have KS := Lib.hid (key_str (idC r.c) IL.out)
                        clear EB0 LM0
                        have lk := A4.out.look2 strK Tryz.underlying169 (zInt u2) KS.out
                        cases hg : auG s.au (idC r.c) with
                        | some v =>
                          have lv : auM s.au (.string (idC r.c)) = some (.int .i64 v) := by
                            show (auG s.au (idC r.c)).map _ = _
                            rw [hg]; rfl
                          rw [lv] at lk
                          have lk : (Instr.lookup 169 (.map (some b5)) (.string (mkB (idC r.c))) true).run Tryz.prog u2 = .ok (.tuple #[.int .i64 v, .bool true]) u2 := lk
                          have TK : Hid (s' = s) := Lib.hid (by rw [ST.out]; exact tstep_has H1.out hg)
                          have RN : Hid (OfR V u2 nk ⟨gp, b1, b2, b3, b4, b5, b6⟩ x.mods es m1 m3 base s' (k + 1)) := Lib.hid (by rw [TK.out]; exact R2.out.next)
                          clear lv hg ST R2
                          go_wp2_with fail
                          exact ⟨⟨k + 1, by omega, by go_num, ⟨_, rfl⟩, ⟨_, rfl⟩, ⟨_, rfl⟩, ⟨_, rfl⟩, ⟨_, rfl⟩, ⟨_, rfl⟩, ⟨_, rfl⟩, by rw [SP.out]; exact RN⟩, by simp [intOf]; omega⟩
                        | none =>
                          have lv : auM s.au (.string (idC r.c)) = none := by
                            show (auG s.au (idC r.c)).map _ = _
                            rw [hg]; rfl
                          rw [lv] at lk
                          have lk : (Instr.lookup 169 (.map (some b5)) (.string (mkB (idC r.c))) true).run Tryz.prog u2 = .ok (.tuple #[.int .i64 0, .bool false]) u2 := lk
                          have TK : Hid (s' = ⟨s.au ++ [(idC r.c, (a : Int))], s.mr, if revB es (idC r.c) then s.nd ++ [(a : Int)] else s.nd⟩) := Lib.hid (by rw [ST.out, tstep_new HV.out H1.out hg, HA.out])
                          obtain ⟨w8, hup, hm8, hg8⟩ := A4.out.upd strK Tryz.underlying169 (by unfold maxLen; omega) KS.out (.int .i64 (a : Int))
                          rw [auM_new hg] at hm8
                          have E8 := Lib.hid (EB.out.up4 hm8 hg8)
                          obtain ⟨c8, hc8⟩ : ∃ c, c ≤ k + 1 ∧ c = (if (auM s.au (.string (idC r.c))).isSome = true then m4 else m4 + 1) := ⟨_, by split <;> omega, rfl⟩
                          have lkr : ∀ q, (Instr.lookup 62 (.map (some b4)) (.string (mkB (idC r.c))) false).run Tryz.prog (w8.drewN q) = .ok (.bool (revB es (idC r.c))) (w8.drewN q) := fun q => by
                            have A3 : MapAt (w8.drewN q) Tryz.prog 9 b4 (revM es) m3 := E8.out.a3.same rfl
                            have := A3.look strK Tryz.underlying62 (zBool (w8.drewN q)) KS.out
                            rw [revM_get] at this; exact this
                          have XX8 : Hid (w8.heap[bx]? = some (.cells (rvL r).toArray 56 (0, 0))) := Lib.hid ((hg8.block bx (lt_of_block (XXH.out u2 O2)) (fun e => by injection e with e; have e : bx = b5 := e; have := b6x.out; have := EB.out.l6; dsimp only at *; omega)).trans (XXH.out u2 O2))
                          have k1u : u2.cell? ⟨bx, 1, none⟩ = some (.int .i64 (a : Int)) := by rw [k1.out u2 O2, HA.out]
                          have k1w : w8.cell? ⟨bx, 1, none⟩ = some (.int .i64 (a : Int)) := by rw [← HA.out]; exact load_block (i := 1) XX8.out rfl
                          have g0w : w8.cell? ⟨gp, 0, none⟩ = some (.int .i64 (nk : Int)) := load_block (i := 0) E8.out.g rfl
                          clear lv hg ST R2 hm8 hg8
                          cases hr : revB es (idC r.c)
                          · rw [hr] at lkr TK
                            have RN : Hid (∀ u, Below w8.heap.size w8 u → OfR V u nk ⟨gp, b1, b2, b3, b4, b5, b6⟩ x.mods es m1 m3 base s' (k + 1)) := Lib.hid (fun u hu => by
                              rw [TK.out]
                              exact ⟨M5, _, m5, by split <;> omega, by omega, E8.out.keep hu, LM.out⟩)
                            clear hr TK hc8
                            go_wp2_with fail
                            go_quiet (fail)
                            go_wp2_with fail
                            exact ⟨⟨k + 1, by omega, by go_num, ⟨_, rfl⟩, ⟨_, rfl⟩, ⟨_, rfl⟩, ⟨_, rfl⟩, ⟨_, rfl⟩, ⟨_, rfl⟩, ⟨_, rfl⟩, by rw [SP.out]; exact Lib.hid (RN.out _ ⟨rfl, rfl, rfl, Nat.le_refl _, fun _ _ => rfl⟩)⟩, by simp [intOf]; omega⟩
                          · rw [hr] at lkr TK
                            by_cases han : a < nk
                            · have d9 : (a : Int) < (nk : Int) := by omega
                              have d10 : (0 : Int) ≤ (a : Int) := by omega
                              have c3w : w8.cell? ⟨gp, 3, none⟩ = some (.slice (some ⟨b3, 0, none⟩) nk nk) := load_block (i := 3) E8.out.g rfl
                              have c5w : w8.cell? ⟨b3, a, none⟩ = some (.int .i64 (needT base s (a : Int))) := by
                                have := ints_cell E8.out.ne (i := a) (by rw [ndL_len]; exact han)
                                rw [ndL_get _ _ _ han] at this
                                exact this
                              have f5w := free_blk E8.out.ne a
                              dsimp only at f5w
                              have wv : IntKind.i64.wrap (needT base s (a : Int) + 1) = needT base s (a : Int) + 1 := IntWalk.i64_in _ (by have := needT_le base s (a : Int); have := NDL.out; have := HBA.out; omega)
                              have RN : Hid (∀ u, Below (w8.setCell ⟨b3, a, none⟩ (.int .i64 (needT base s (a : Int) + 1))).heap.size (w8.setCell ⟨b3, a, none⟩ (.int .i64 (needT base s (a : Int) + 1))) u → OfR V u nk ⟨gp, b1, b2, b3, b4, b5, b6⟩ x.mods es m1 m3 base s' (k + 1)) := Lib.hid (fun u hu => by
                                rw [TK.out, if_pos rfl]
                                have := (E8.out.setN a (needT base s (a : Int) + 1)).keep hu
                                rw [← ndL_add base s (s.au ++ [(idC r.c, (a : Int))]) s.mr nk a han] at this
                                exact ⟨M5, _, m5, by split <;> omega, by omega, this, LM.out⟩)
                              generalize needT base s (a : Int) = nv at *
                              clear hr TK hc8
                              go_wp2_with fail
                              go_quiet (fail)
                              go_upto_region 32 with fail
                              (refine wp_region_noPanic ?_; refine wp_region_held_drew (S := (fun _ => True)) (by kernel_rfl) ?_ (fun hHeld => ?_); exact trivial)
                              (refine tkW 0 ?_; try simp only [gmS])
                              (refine tkW 1 ?_; try simp only [gmS])
                              (refine tkW 2 ?_; try simp only [gmS])
                              (refine tkW 4 ?_; try simp only [gmS])
                              (refine wpAnyH_ready (rs := [3, 5]) (by kernel_rfl) (by simp) ?_; refine AllReadyH.cons (o := _) rfl (fun K hK => ?_) (AllReadyH.cons (o := _) rfl (fun K hK => ?_) AllReadyH.nil))
                              · go_simp
                                (refine hK.out _ _ trivial (fun hHeld2 => ?_); clear hK K hHeld; have hHeld := hHeld2; clear hHeld2; try simp only [gmS])
                                (refine rdW 5 (fun K hK => ?_); go_simp)
                                (refine hK.out _ _ trivial (fun hHeld2 => ?_); clear hK K hHeld; have hHeld := hHeld2; clear hHeld2; try simp only [gmS])
                                (refine tkW 6 ?_; try simp only [gmS])
                                (refine rdW 7 (fun K hK => ?_); go_simp)
                                (refine hK.out _ _ trivial (fun hHeld2 => ?_); clear hK K hHeld; have hHeld := hHeld2; clear hHeld2; try simp only [gmS])
                                (refine tkW 8 ?_; try simp only [gmS])
                                (refine tkW 9 ?_; try simp only [gmS])
                                (refine rdW 10 (fun K hK => ?_); go_simp)
                                (refine hK.out _ _ trivial (fun hHeld2 => ?_); clear hK K hHeld; have hHeld := hHeld2; clear hHeld2; try simp only [gmS])
                                (refine wpAnyH_done (by kernel_rfl) ?_ _; refine NoPanic.normal ?_)
                                clear hHeld lkr k1u k1w g0w c3w c5w f5w
                                go_wp2_with fail
                                exact ⟨⟨k + 1, by omega, by go_num, ⟨_, rfl⟩, ⟨_, rfl⟩, ⟨_, rfl⟩, ⟨_, rfl⟩, ⟨_, rfl⟩, ⟨_, rfl⟩, ⟨_, rfl⟩, by rw [SP.out]; exact Lib.hid (RN.out _ ⟨rfl, rfl, rfl, Nat.le_refl _, fun _ _ => rfl⟩)⟩, by simp [intOf]; omega⟩
                              · go_simp
                                (refine hK.out _ _ trivial (fun hHeld2 => ?_); clear hK K hHeld; have hHeld := hHeld2; clear hHeld2; try simp only [gmS])
                                (refine rdW 3 (fun K hK => ?_); go_simp)
                                (refine hK.out _ _ trivial (fun hHeld2 => ?_); clear hK K hHeld; have hHeld := hHeld2; clear hHeld2; try simp only [gmS])
                                (refine tkW 6 ?_; try simp only [gmS])
                                (refine rdW 7 (fun K hK => ?_); go_simp)
                                (refine hK.out _ _ trivial (fun hHeld2 => ?_); clear hK K hHeld; have hHeld := hHeld2; clear hHeld2; try simp only [gmS])
                                (refine tkW 8 ?_; try simp only [gmS])
                                (refine tkW 9 ?_; try simp only [gmS])
                                (refine rdW 10 (fun K hK => ?_); go_simp)
                                (refine hK.out _ _ trivial (fun hHeld2 => ?_); clear hK K hHeld; have hHeld := hHeld2; clear hHeld2; try simp only [gmS])
                                (refine wpAnyH_done (by kernel_rfl) ?_ _; refine NoPanic.normal ?_)
                                clear hHeld lkr k1u k1w g0w c3w c5w f5w
                                go_wp2_with fail
                                exact ⟨⟨k + 1, by omega, by go_num, ⟨_, rfl⟩, ⟨_, rfl⟩, ⟨_, rfl⟩, ⟨_, rfl⟩, ⟨_, rfl⟩, ⟨_, rfl⟩, ⟨_, rfl⟩, by rw [SP.out]; exact Lib.hid (RN.out _ ⟨rfl, rfl, rfl, Nat.le_refl _, fun _ _ => rfl⟩)⟩, by simp [intOf]; omega⟩
                            · have d9 : ¬ (a : Int) < (nk : Int) := by omega
                              have RN : Hid (∀ u, Below w8.heap.size w8 u → OfR V u nk ⟨gp, b1, b2, b3, b4, b5, b6⟩ x.mods es m1 m3 base s' (k + 1)) := Lib.hid (fun u hu => by
                                rw [TK.out, if_pos rfl]
                                have := E8.out.keep hu
                                rw [← ndL_out base s (s.au ++ [(idC r.c, (a : Int))]) s.mr nk a han] at this
                                exact ⟨M5, _, m5, by split <;> omega, by omega, this, LM.out⟩)
                              clear hr TK hc8
                              go_wp2_with fail
                              go_quiet (fail)
                              go_wp2_with fail
                              exact ⟨⟨k + 1, by omega, by go_num, ⟨_, rfl⟩, ⟨_, rfl⟩, ⟨_, rfl⟩, ⟨_, rfl⟩, ⟨_, rfl⟩, ⟨_, rfl⟩, ⟨_, rfl⟩, by rw [SP.out]; exact Lib.hid (RN.out _ ⟨rfl, rfl, rfl, Nat.le_refl _, fun _ _ => rfl⟩)⟩, by simp [intOf]; omega⟩
                      · have g1 : (r.kind == 1) = false := by simpa using h1
                        have H1 := Lib.hid h1
                        clear h1
                        by_cases h2 : r.kind = 2
                        · --<e2
                          have g2 : (r.kind == 2) = true := by rw [h2]; rfl
                          have H2 := Lib.hid h2
                          have TL : Hid (r.target.length ≤ 1000000) := Lib.hid HSH.out.target
                          clear h2
                          obtain ⟨M5, m4, m5, hm4, hm5, EB0, LM0⟩ := R1.out
                          have LM := Lib.hid LM0
                          have TK : Hid (s' = ⟨s.au, (((a : Int), r.target), r.yes && (auG s.au r.target).isSome) :: s.mr, s.nd⟩) := Lib.hid (by rw [ST.out, tstep_2 HV.out H2.out, HA.out])
                          obtain ⟨bp, hbp⟩ : ∃ b, u1.heap.size = b := ⟨_, rfl⟩
                          obtain ⟨P1, hP1⟩ : ∃ X, X = u1.alloc (.cells #[.int .i64 (a : Int), .string (mkB r.target)] 173) := ⟨_, rfl⟩
                          have BP : Below u1.heap.size u1 P1 := by rw [hP1]; exact (Below.refl _ _).alloc (Nat.le_refl _) _
                          have XP : P1.heap[bp]? = some (.cells #[.int .i64 (a : Int), .string (mkB r.target)] 173 (0, 0)) := by rw [hP1, ← hbp]; exact heap_alloc_new u1 _
                          have OP : OldB X P1 := O1.then BP
                          have XB := XXH.out P1 OP
                          have EP := Lib.hid (EB0.keep BP)
                          have A4 : MapAt P1 Tryz.prog 9 b5 (auM s.au) m4 := EP.out.a4
                          have k1u : u1.cell? ⟨bx, 1, none⟩ = some (.int .i64 (a : Int)) := by rw [k1.out u1 O1, HA.out]
                          have k7u := k7.out u1 O1
                          have k7p := k7.out P1 OP
                          have bxp : bx < bp := by rw [← hbp]; exact lt_of_block (XXH.out u1 O1)
                          have b6x' := b6x.out
                          have KP := Lib.hid (key_pair (a := (a : Int)) (t := r.target) (by have := ha59.out; omega) TL.out)
                          have FSP := Lib.hid (setCells_freshG (P := Tryz.prog) u1 173 [.int .i64 0, .string ⟨#[]⟩] [.int .i64 (a : Int), .string (mkB r.target)] (by kernel_rfl) rfl (by simp [Value.oneCell']))
                          have lk := A4.look2 strK Tryz.underlying169 (zInt P1) (key_str r.target TL.out)
                          have HP := Lib.hid hP1
                          have HBP := Lib.hid hbp
                          have XPH := Lib.hid XP
                          have c0p : P1.cell? ⟨bp, 0, none⟩ = some (.int .i64 (a : Int)) := load_block (i := 0) XP rfl
                          have c1p : P1.cell? ⟨bp, 1, none⟩ = some (.string (mkB r.target)) := load_block (i := 1) XP rfl
                          clear EB0 LM0 hP1 hbp BP A4 XP
                          cases hg : auG s.au r.target with
                          | none =>
                            have lv : auM s.au (.string r.target) = none := by
                              show (auG s.au r.target).map _ = _
                              rw [hg]; rfl
                            rw [lv] at lk
                            have lk : (Instr.lookup 169 (.map (some b5)) (.string (mkB r.target)) true).run Tryz.prog P1 = .ok (.tuple #[.int .i64 0, .bool false]) P1 := lk
                            have f8 := free_blk XB 8
                            have k8p : P1.cell? ⟨bx, 8, none⟩ = some (.bool r.yes) := load_block (i := 8) XB rfl
                            obtain ⟨Z, hZ⟩ : ∃ Z, Z = P1.setCell ⟨bx, 8, none⟩ (.bool false) := ⟨_, rfl⟩
                            have BZ : Below (b6 + 1) P1 Z := by rw [hZ]; exact (Below.refl _ _).setCell (p := ⟨bx, 8, none⟩) (by show b6 + 1 ≤ bx; omega) _
                            have XZ : Z.heap[bx]? = some (.cells (recB r false).toArray 56 (0, 0)) := by rw [hZ, setCell_row _ XB]; unfold recB; rw [List.setIfInBounds_toArray]
                            have XPZ : Z.heap[bp]? = some (.cells #[.int .i64 (a : Int), .string (mkB r.target)] 173 (0, 0)) := by rw [hZ]; exact (setCell_other (by omega)).trans XPH.out
                            have c0 : Z.cell? ⟨bp, 0, none⟩ = some (.int .i64 (a : Int)) := load_block (i := 0) XPZ rfl
                            have c1 : Z.cell? ⟨bp, 1, none⟩ = some (.string (mkB r.target)) := load_block (i := 1) XPZ rfl
                            have EZ := Lib.hid (EP.out.keepB BZ)
                            have A5 : Hid (MapAt Z Tryz.prog 173 b6 M5 m5) := Lib.hid EZ.out.a5
                            obtain ⟨w8, hup, hm8, hg8⟩ := A5.out.upd pairK Tryz.underlying170 (by unfold maxLen; omega) KP.out (.agg (recB r false).toArray)
                            have E8 := Lib.hid (EZ.out.up5 hm8 hg8)
                            have RN : Hid (OfR V w8 nk ⟨gp, b1, b2, b3, b4, b5, b6⟩ x.mods es m1 m3 base s' (k + 1)) := Lib.hid (by
                              rw [TK.out, hg, Option.isSome_none, Bool.and_false]
                              exact ⟨_, m4, _, by omega, by split <;> omega, E8.out, LM.out.add false (by omega) (by have := ha59.out; omega) TL.out HIH.out⟩)
                            have RZ : Hid (Z.rangeAt bx 0 (recB r false)) := Lib.hid (by have := range_of_row XZ; simpa using this)
                            have HZ := Lib.hid hZ
                            clear lv hg ST R1 TK BZ XZ XPZ hm8 hg8 hZ XB
                            go_upto_region 35 with fail
                            rw [← HP.out, HBP.out]
                            go_upto_region 38 with fail
                            rw [← HZ.out]
                            go_wp2_with (refine wpList_load_mid rfl 56 (.tmp 15) rfl bx 0 rfl (recB r false) _ RZ.out Tryz.underlying56 rfl (mrec_szB r false) ?_)
                            exact ⟨⟨k + 1, by omega, by go_num, ⟨_, rfl⟩, ⟨_, rfl⟩, ⟨_, rfl⟩, ⟨_, rfl⟩, ⟨_, rfl⟩, ⟨_, rfl⟩, ⟨_, rfl⟩, by rw [SP.out]; exact RN⟩, by simp [intOf]; omega⟩
                          | some v =>
                            have lv : auM s.au (.string r.target) = some (.int .i64 v) := by
                              show (auG s.au r.target).map _ = _
                              rw [hg]; rfl
                            rw [lv] at lk
                            have lk : (Instr.lookup 169 (.map (some b5)) (.string (mkB r.target)) true).run Tryz.prog P1 = .ok (.tuple #[.int .i64 v, .bool true]) P1 := lk
                            have A5 : Hid (MapAt P1 Tryz.prog 173 b6 M5 m5) := Lib.hid EP.out.a5
                            obtain ⟨w8, hup, hm8, hg8⟩ := A5.out.upd pairK Tryz.underlying170 (by unfold maxLen; omega) KP.out (.agg (rvL r).toArray)
                            have E8 := Lib.hid (EP.out.up5 hm8 hg8)
                            have RN : Hid (OfR V w8 nk ⟨gp, b1, b2, b3, b4, b5, b6⟩ x.mods es m1 m3 base s' (k + 1)) := Lib.hid (by
                              rw [TK.out, hg, Option.isSome_some, Bool.and_true]
                              have := LM.out.add r.yes (a := (a : Int)) (t := r.target) (by omega) (by have := ha59.out; omega) TL.out HIH.out
                              rw [recB_self] at this
                              exact ⟨_, m4, _, by omega, by split <;> omega, E8.out, this⟩)
                            have RZ : Hid (P1.rangeAt bx 0 (rvL r)) := Lib.hid (RX.out P1 OP)
                            clear lv hg ST R1 TK hm8 hg8 XB
                            go_upto_region 35 with fail
                            rw [← HP.out, HBP.out]
                            go_wp2_with (refine wpList_load_mid rfl 56 (.tmp 15) rfl bx 0 rfl (rvL r) _ RZ.out Tryz.underlying56 rfl (mrec_szL r) ?_)
                            exact ⟨⟨k + 1, by omega, by go_num, ⟨_, rfl⟩, ⟨_, rfl⟩, ⟨_, rfl⟩, ⟨_, rfl⟩, ⟨_, rfl⟩, ⟨_, rfl⟩, ⟨_, rfl⟩, by rw [SP.out]; exact RN⟩, by simp [intOf]; omega⟩
                        · have g2 : (r.kind == 2) = false := by simpa using h2
                          have TK : Hid (s' = s) := Lib.hid (by rw [ST.out]; exact tstep_other H1.out h2)
                          have RN : Hid (OfR V u1 nk ⟨gp, b1, b2, b3, b4, b5, b6⟩ x.mods es m1 m3 base s' (k + 1)) := Lib.hid (by rw [TK.out]; exact R1.out.next)
                          clear h2 ST R1
                          go_wp2_with fail
                          exact ⟨⟨k + 1, by omega, by go_num, ⟨_, rfl⟩, ⟨_, rfl⟩, ⟨_, rfl⟩, ⟨_, rfl⟩, ⟨_, rfl⟩, ⟨_, rfl⟩, ⟨_, rfl⟩, by rw [SP.out]; exact RN⟩, by simp [intOf]; omega⟩
                  · obtain rfl : n = k := by omega
                    have d7 : ¬ (n : Int) < (n : Int) := by omega
                    have TT : l.take n = l := List.take_of_length_le (by rw [← HN.out]; exact Nat.le_refl _)
                    rw [TT] at HR
                    obtain ⟨s, hs⟩ : ∃ s, s = tsF (revB es) l := ⟨_, rfl⟩
                    have HSF := Lib.hid hs
                    rw [← hs] at HR
                    obtain ⟨M5, m4, m5, hm4, hm5, EB0, LM0⟩ := HR.out
                    have LM := Lib.hid LM0
                    have AUR : Hid (AuR s) := Lib.hid (by rw [hs]; exact AuR.all _ _)
                    have A5 : MapAt wr Tryz.prog 173 b6 M5 m5 := EB0.a5
                    obtain ⟨w0, hr0, hrg, hg0, hsz⟩ := A5.range pairK Tryz.underlying170
                    obtain ⟨it, hit⟩ : ∃ it, wr.heap.size = it := ⟨_, rfl⟩
                    have b6it : b6 < it := by rw [← hit]; exact A5.lt
                    have BW0 : Below wr.heap.size wr w0 := (Below.refl _ _).grown hg0 (Nat.le_refl _) (fun k e => by cases e)
                    rw [hit] at hr0 hrg hsz
                    have G0 : Hid (OfG V w0 nk ⟨gp, b1, b2, b3, b4, b5, b6⟩ it (modM x.mods nk) (fun _ => none) (revM es) (auM s.au) M5 m1 0 m3 m4 m5 (ndL base s nk) (fun kl => (M5 kl).isSome) m5 0) := Lib.hid ⟨EB0.keep BW0, hrg, by omega, b6it, by omega⟩
                    have C0 : Hid (ConR (revB es) s nk (fun kl => (M5 kl).isSome) (fun _ => none)) := Lib.hid (ConR.nil (fun p t h => by
                      obtain ⟨b, hb⟩ := Option.isSome_iff_exists.1 h
                      exact LM0.has p t b hb))
                    clear hs EB0 LM0 A5 hrg hg0 hit b6it BW0 HR TT hsz
                    go_wp2_with fail
                    clear hr0
                    go_loopw [22, 23, 24, 25] (fun s22 s23 s24 s25 wr => (∃ p, s22 = p) ∧ (∃ p, s23 = p) ∧ (∃ p, s24 = p) ∧ (∃ p, s25 = p) ∧ ∃ left cnt M2 m2, Hid (OfG V wr nk ⟨gp, b1, b2, b3, b4, b5, b6⟩ it (modM x.mods nk) M2 (revM es) (auM s.au) M5 m1 m2 m3 m4 m5 (ndL base s nk) left cnt 0) ∧ Hid (ConR (revB es) s nk left M2)) (fun _ _ _ _ wr => wr.rangeLeft b6 it)
                    case atStart => exact ⟨⟨_, rfl⟩, ⟨_, rfl⟩, ⟨_, rfl⟩, ⟨_, rfl⟩, _, _, _, _, G0, C0⟩
                    case round =>
                      clear G0 C0
                      obtain ⟨⟨p22, rfl⟩, ⟨p23, rfl⟩, ⟨p24, rfl⟩, ⟨p25, rfl⟩, left, cnt, M2, m2, HG, CR⟩ := hrel
                      have RG0 : MapRg wr Tryz.prog 173 b6 it M5 m5 left cnt := HG.out.rg
                      have ORG := Lib.hid RG0.left_eq
                      rcases RG0.next pairK 0 with ⟨hc0, hl0, hnx⟩ | ⟨key, v, kl, w1, cnt', hkey, hlk, hM, hnx, hrg1, hlt, hg1, hs1, hen⟩
                      · have FIN := HG.out.fin CR.out hl0 nk1
                        have BV : Below V.heap.size V wr := HG.out.eb.bel
                        have PF : Hid (GrAt wr ⟨gp, b1, b2, b3, m1, m2, modM x.mods nk, M2⟩ (gdT x l) ∧ GP.lt ⟨gp, b1, b2, b3, m1, m2, modM x.mods nk, M2⟩ wr.heap.size ∧ Below w.heap.size w wr) := Lib.hid ⟨by
                          have := FIN.1
                          rw [HSF.out, BASE.out, ← REV.out] at this
                          have e := NK.out
                          subst e
                          exact this, FIN.2, BVH.out.trans (BV.mono BVH.out.size)⟩
                        clear RG0 FIN BV hc0 hl0
                        go_wp2_with fail
                        go_ret
                        exact ⟨⟨gp, b1, b2, b3, m1, m2, modM x.mods nk, M2⟩, rfl, PF.out.1, PF.out.2.1, PF.out.2.2⟩
                      · --<g
                        obtain ⟨p, t, bb, r, rfl, hp0, hp1, htl, hmk, rfl, wq, hri⟩ := LM.out.key _ _ hM
                        obtain ⟨pn, rfl⟩ : ∃ m : Nat, p = (m : Int) := ⟨p.toNat, by omega⟩
                        obtain rfl : key = .agg #[.int .i64 (pn : Int), .string (mkB t)] := pairK.inj hkey (key_pair (by omega) htl)
                        have G1 := HG.out.next hrg1 hlt hg1 hs1
                        obtain ⟨bp, hbp⟩ : ∃ b, w1.heap.size = b := ⟨_, rfl⟩
                        obtain ⟨br, hbr⟩ : ∃ b, w1.heap.size + 1 = b := ⟨_, rfl⟩
                        obtain ⟨Y, hY⟩ : ∃ Y, Y = w1.alloc (.cells #[.int .i64 (pn : Int), .string (mkB t)] 173) := ⟨_, rfl⟩
                        obtain ⟨X, hX⟩ : ∃ X, X = Y.alloc (.cells (recB r bb).toArray 56) := ⟨_, rfl⟩
                        have zY : Y.heap.size = w1.heap.size + 1 := by rw [hY]; simp
                        have BX : Below w1.heap.size w1 X := by rw [hX, hY]; exact ((Below.refl _ _).alloc (Nat.le_refl _) _).alloc (by simp) _
                        have XP : X.heap[bp]? = some (.cells #[.int .i64 (pn : Int), .string (mkB t)] 173 (0, 0)) := by rw [hX, hY, ← hbp]; exact (alloc_old _ _ (by simp)).trans (heap_alloc_new w1 _)
                        have XR : X.heap[br]? = some (.cells (recB r bb).toArray 56 (0, 0)) := by rw [hX, ← hbr, ← zY]; exact heap_alloc_new Y _
                        have c0 : X.cell? ⟨bp, 0, none⟩ = some (.int .i64 (pn : Int)) := load_block (i := 0) XP rfl
                        have c1 : X.cell? ⟨bp, 1, none⟩ = some (.string (mkB t)) := load_block (i := 1) XP rfl
                        have k8 : X.cell? ⟨br, 8, none⟩ = some (.bool bb) := load_block (i := 8) XR rfl
                        have GX : Hid (OfG V X nk ⟨gp, b1, b2, b3, b4, b5, b6⟩ it (modM x.mods nk) M2 (revM es) (auM s.au) M5 m1 m2 m3 m4 m5 (ndL base s nk) (fun y => left y && !y.sameKey (kp (pn : Int) t)) cnt' 1) := Lib.hid (G1.keep BX)
                        have GN : Hid (∀ u, Below X.heap.size X u → OfG V u nk ⟨gp, b1, b2, b3, b4, b5, b6⟩ it (modM x.mods nk) M2 (revM es) (auM s.au) M5 m1 m2 m3 m4 m5 (ndL base s nk) (fun y => left y && !y.sameKey (kp (pn : Int) t)) cnt' 0) := Lib.hid (fun u hu => (GX.out.keep hu).drop)
                        have ONE := Lib.hid (recB_one r bb hri)
                        have TH1 : Hid (∀ o, ((w1.alloc (.cells #[.int .i64 0, .string ⟨#[]⟩] 173)).alloc o).there w1.heap.size 0 2) := Lib.hid (fun o => there_of_row ((alloc_old _ _ (by simp)).trans (heap_alloc_new w1 _)) (Nat.le_refl 2))
                        have FSP : Hid (∀ o, ((w1.alloc (.cells #[.int .i64 0, .string ⟨#[]⟩] 173)).alloc o).setCells w1.heap.size 0 [.int .i64 (pn : Int), .string (mkB t)] = (w1.alloc (.cells #[.int .i64 (pn : Int), .string (mkB t)] 173)).alloc o) := Lib.hid (fun o => by
                          rw [setCells_alloc _ _ _ (by simp)]
                          congr 1
                          exact setCells_freshG (P := Tryz.prog) w1 173 [.int .i64 0, .string ⟨#[]⟩] [.int .i64 (pn : Int), .string (mkB t)] (by kernel_rfl) rfl (by simp [Value.oneCell']))
                        have FSR := Lib.hid (fun z (hz : z.length = 21) => setCells_fresh Y z (recB r bb) hz (recB_len r bb) ONE.out)
                        have SZB : (Tryz.prog.info? 56).map (·.size) = some (recB r bb).toArray.size := by rw [List.size_toArray]; exact mrec_szB r bb
                        have HY := Lib.hid hY
                        have HX := Lib.hid hX
                        have HBP := Lib.hid hbp
                        have HBR := Lib.hid hbr
                        have ZY := Lib.hid zY
                        have TH2 : Hid (∀ z : List Value, z.length = 21 → (Y.alloc (.cells z.toArray 56)).there Y.heap.size 0 (recB r bb).toArray.size) := Lib.hid (fun z hz => there_of_row (heap_alloc_new Y _) (by rw [List.size_toArray, List.size_toArray, recB_len, hz]; exact Nat.le_refl _))
                        clear hY hX hbp hbr zY BX XP XR G1 hM hrg1 hg1 hs1 hri RG0 hkey hlk HG
                        go_upto_region 43 with (first
                          | (refine wpList_store_mid rfl 173 (.tmp 22) (.tmp 170) rfl w1.heap.size 0 #[.int .i64 (pn : Int), .string (mkB t)] rfl rfl (TH1.out _) (by kernel_rfl) (by simp [Value.oneCell']) ?_; rw [show (#[Value.int .i64 (pn : Int), .string (mkB t)] : Array Value).toList = [.int .i64 (pn : Int), .string (mkB t)] from rfl, FSP.out, ← HY.out])
                          | (refine wpList_store_mid rfl 56 (.tmp 23) (.tmp 171) rfl Y.heap.size 0 (recB r bb).toArray (by first | rfl | (rw [ZY.out]; rfl)) rfl (TH2.out _ rfl) SZB ONE.out ?_; rw [List.toList_toArray, FSR.out _ rfl, ← HX.out]))
                        rw [HBR.out, HBP.out]
                        have A4 : MapAt X Tryz.prog 9 b5 (auM s.au) m4 := GX.out.eb.a4
                        have KS := Lib.hid (key_str t htl)
                        have lk := A4.look2 strK Tryz.underlying169 (zInt X) KS.out
                        have lkr : ∀ q, (Instr.lookup 62 (.map (some b4)) (.string (mkB t)) false).run Tryz.prog (X.drewN q) = .ok (.bool (revB es t)) (X.drewN q) := fun q => by
                          have A3 : MapAt (X.drewN q) Tryz.prog 9 b4 (revM es) m3 := GX.out.eb.a3.same rfl
                          have := A3.look strK Tryz.underlying62 (zBool (X.drewN q)) KS.out
                          rw [revM_get] at this; exact this
                        have g0 : X.cell? ⟨gp, 0, none⟩ = some (.int .i64 (nk : Int)) := load_block (i := 0) GX.out.eb.g rfl
                        clear A4 TH1 TH2 FSP FSR SZB HY HX HBP HBR ZY hnx hen
                        cases hg : auG s.au t with
                        | none =>
                          have lv : auM s.au (.string t) = none := by
                            show (auG s.au t).map _ = _
                            rw [hg]; rfl
                          rw [lv] at lk
                          have lk : (Instr.lookup 169 (.map (some b5)) (.string (mkB t)) true).run Tryz.prog X = .ok (.tuple #[.int .i64 0, .bool false]) X := lk
                          have CN := Lib.hid (CR.out.skip LM.out.rng hp0 hp1 htl (fun a ho => by have := ho.2.1; rw [hg] at this; cases this))
                          go_wp2_with fail
                          go_quiet (fail)
                          go_wp2_with fail
                          refine ⟨⟨⟨_, rfl⟩, ⟨_, rfl⟩, ⟨_, rfl⟩, ⟨_, rfl⟩, _, _, _, _, Lib.hid (GN.out (X.drewN nq) ⟨rfl, rfl, rfl, Nat.le_refl _, fun _ _ => rfl⟩), CN⟩, ?_⟩
                          exact Nat.lt_of_le_of_lt (Nat.le_of_eq (GN.out (X.drewN nq) ⟨rfl, rfl, rfl, Nat.le_refl _, fun _ _ => rfl⟩).rg.left_eq) (by rw [ORG.out]; exact hlt)
                        | some av =>
                          have lv : auM s.au (.string t) = some (.int .i64 av) := by
                            show (auG s.au t).map _ = _
                            rw [hg]; rfl
                          rw [lv] at lk
                          have hav := AUR.out.get hg
                          obtain ⟨an, rfl⟩ : ∃ m : Nat, av = (m : Int) := ⟨av.toNat, by omega⟩
                          have lk : (Instr.lookup 169 (.map (some b5)) (.string (mkB t)) true).run Tryz.prog X = .ok (.tuple #[.int .i64 (an : Int), .bool true]) X := lk
                          have HGA : Hid (∀ a, auG s.au t = some a → a = (an : Int)) := Lib.hid (fun a e => by rw [hg] at e; injection e with e; exact e.symm)
                          clear lv
                          cases bb
                          · have CN := Lib.hid (CR.out.skip LM.out.rng hp0 hp1 htl (fun a ho => by have := ho.1; rw [hmk] at this; cases this))
                            go_wp2_with fail
                            go_quiet (fail)
                            go_wp2_with fail
                            refine ⟨⟨⟨_, rfl⟩, ⟨_, rfl⟩, ⟨_, rfl⟩, ⟨_, rfl⟩, _, _, _, _, Lib.hid (GN.out (X.drewN nq) ⟨rfl, rfl, rfl, Nat.le_refl _, fun _ _ => rfl⟩), CN⟩, ?_⟩
                            exact Nat.lt_of_le_of_lt (Nat.le_of_eq (GN.out (X.drewN nq) ⟨rfl, rfl, rfl, Nat.le_refl _, fun _ _ => rfl⟩).rg.left_eq) (by rw [ORG.out]; exact hlt)
                          · by_cases hap : an = pn
                            · subst hap
                              have gp1 : ((an : Int) != (an : Int)) = false := by simp
                              have CN := Lib.hid (CR.out.skip LM.out.rng hp0 hp1 htl (fun a ho => ho.2.2.1 (HGA.out a ho.2.1)))
                              go_wp2_with fail
                              go_quiet (fail)
                              go_wp2_with fail
                              refine ⟨⟨⟨_, rfl⟩, ⟨_, rfl⟩, ⟨_, rfl⟩, ⟨_, rfl⟩, _, _, _, _, Lib.hid (GN.out (X.drewN nq) ⟨rfl, rfl, rfl, Nat.le_refl _, fun _ _ => rfl⟩), CN⟩, ?_⟩
                              exact Nat.lt_of_le_of_lt (Nat.le_of_eq (GN.out (X.drewN nq) ⟨rfl, rfl, rfl, Nat.le_refl _, fun _ _ => rfl⟩).rg.left_eq) (by rw [ORG.out]; exact hlt)
                            · have gp1 : ((an : Int) != (pn : Int)) = true := by simp; omega
                              by_cases hpk : pn < nk
                              · have gp2 : (pn : Int) < (nk : Int) := by omega
                                by_cases hak : an < nk
                                · have gp3 : (an : Int) < (nk : Int) := by omega
                                  cases hrv : revB es t
                                  · rw [hrv] at lkr
                                    have g2 : X.cell? ⟨gp, 2, none⟩ = some (.map (some b2)) := load_block (i := 2) GX.out.eb.g rfl
                                    have CN := Lib.hid (CR.out.add LM.out.rng hp0 hp1 htl hav.1 hav.2 ⟨hmk, hg, by omega, by omega, by omega, hrv⟩)
                                    go_wp2_with fail
                                    go_quiet (fail)
                                    go_upto_region 45 with fail
                                    (refine wp_region_noPanic ?_; refine wp_region_held_drew (S := (fun _ => True)) (by kernel_rfl) ?_ (fun hHeld => ?_); exact trivial)
                                    have GU := GX.out.keep (u' := X.drewN (nq + 1)) ⟨rfl, rfl, rfl, Nat.le_refl _, fun _ _ => rfl⟩
                                    have A2u : MapAt (X.drewN (nq + 1)) Tryz.prog 166 b2 M2 m2 := GU.eb.a2
                                    obtain ⟨w9, hup, hm9, hg9⟩ := A2u.upd twoK Tryz.underlying163 (by have := GU.le; unfold maxLen; omega) (key_two (a := (pn : Int)) (b := (an : Int)) (by omega) (by omega)) (.bool true)
                                    have G9 := Lib.hid (GU.up2 hm9 hg9 (by split <;> omega))
                                    have L9 : Hid (w9.rangeLeft b6 it = cnt') := Lib.hid G9.out.rg.left_eq
                                    clear GU A2u hm9 hg9
                                    (refine tkW 0 ?_; try simp only [gmS])
                                    (refine tkW 1 ?_; try simp only [gmS])
                                    (refine tkW 2 ?_; try simp only [gmS])
                                    (refine tkW 4 ?_; try simp only [gmS])
                                    (refine tkW 6 ?_; try simp only [gmS])
                                    (refine wpAnyH_ready (rs := [3, 5]) (by kernel_rfl) (by simp) ?_; refine AllReadyH.cons (o := _) rfl (fun K hK => ?_) (AllReadyH.cons (o := _) rfl (fun K hK => ?_) AllReadyH.nil))
                                    · go_simp
                                      (refine hK.out _ _ trivial (fun hHeld2 => ?_); clear hK K hHeld; have hHeld := hHeld2; clear hHeld2; try simp only [gmS])
                                      (refine rdW 5 (fun K hK => ?_); go_simp)
                                      (refine hK.out _ _ trivial (fun hHeld2 => ?_); clear hK K hHeld; have hHeld := hHeld2; clear hHeld2; try simp only [gmS])
                                      (refine tkW 7 ?_; try simp only [gmS])
                                      (refine rdW 8 (fun K hK => ?_); go_simp)
                                      (refine hK.out _ _ trivial (fun hHeld2 => ?_); clear hK K hHeld; have hHeld := hHeld2; clear hHeld2; try simp only [gmS])
                                      (refine wpAnyH_done (by kernel_rfl) ?_ _; refine NoPanic.normal ?_)
                                      clear hHeld lk lkr c0 c1 k8 g0 g2 hup
                                      go_wp2_with fail
                                      exact ⟨⟨⟨_, rfl⟩, ⟨_, rfl⟩, ⟨_, rfl⟩, ⟨_, rfl⟩, _, _, _, _, G9, CN⟩, by rw [ORG.out, L9.out]; exact hlt⟩
                                    · go_simp
                                      (refine hK.out _ _ trivial (fun hHeld2 => ?_); clear hK K hHeld; have hHeld := hHeld2; clear hHeld2; try simp only [gmS])
                                      (refine tkW 7 ?_; try simp only [gmS])
                                      (refine rdW 3 (fun K hK => ?_); go_simp)
                                      (refine hK.out _ _ trivial (fun hHeld2 => ?_); clear hK K hHeld; have hHeld := hHeld2; clear hHeld2; try simp only [gmS])
                                      (refine rdW 8 (fun K hK => ?_); go_simp)
                                      (refine hK.out _ _ trivial (fun hHeld2 => ?_); clear hK K hHeld; have hHeld := hHeld2; clear hHeld2; try simp only [gmS])
                                      (refine wpAnyH_done (by kernel_rfl) ?_ _; refine NoPanic.normal ?_)
                                      clear hHeld lk lkr c0 c1 k8 g0 g2 hup
                                      go_wp2_with fail
                                      exact ⟨⟨⟨_, rfl⟩, ⟨_, rfl⟩, ⟨_, rfl⟩, ⟨_, rfl⟩, _, _, _, _, G9, CN⟩, by rw [ORG.out, L9.out]; exact hlt⟩
                                  · rw [hrv] at lkr
                                    have CN := Lib.hid (CR.out.skip LM.out.rng hp0 hp1 htl (fun a ho => by have := ho.2.2.2.2.2; rw [hrv] at this; cases this))
                                    go_wp2_with fail
                                    go_quiet (fail)
                                    go_wp2_with fail
                                    refine ⟨⟨⟨_, rfl⟩, ⟨_, rfl⟩, ⟨_, rfl⟩, ⟨_, rfl⟩, _, _, _, _, Lib.hid (GN.out (X.drewN nq) ⟨rfl, rfl, rfl, Nat.le_refl _, fun _ _ => rfl⟩), CN⟩, ?_⟩
                                    exact Nat.lt_of_le_of_lt (Nat.le_of_eq (GN.out (X.drewN nq) ⟨rfl, rfl, rfl, Nat.le_refl _, fun _ _ => rfl⟩).rg.left_eq) (by rw [ORG.out]; exact hlt)
                                · have gp3 : ¬ (an : Int) < (nk : Int) := by omega
                                  have CN := Lib.hid (CR.out.skip LM.out.rng hp0 hp1 htl (fun a ho => by have h1 := HGA.out a ho.2.1; have h2 := ho.2.2.2.2.1; omega))
                                  go_wp2_with fail
                                  go_quiet (fail)
                                  go_wp2_with fail
                                  refine ⟨⟨⟨_, rfl⟩, ⟨_, rfl⟩, ⟨_, rfl⟩, ⟨_, rfl⟩, _, _, _, _, Lib.hid (GN.out (X.drewN nq) ⟨rfl, rfl, rfl, Nat.le_refl _, fun _ _ => rfl⟩), CN⟩, ?_⟩
                                  exact Nat.lt_of_le_of_lt (Nat.le_of_eq (GN.out (X.drewN nq) ⟨rfl, rfl, rfl, Nat.le_refl _, fun _ _ => rfl⟩).rg.left_eq) (by rw [ORG.out]; exact hlt)
                              · have gp2 : ¬ (pn : Int) < (nk : Int) := by omega
                                have CN := Lib.hid (CR.out.skip LM.out.rng hp0 hp1 htl (fun a ho => by have h2 := ho.2.2.2.1; omega))
                                go_wp2_with fail
                                go_quiet (fail)
                                go_wp2_with fail
                                refine ⟨⟨⟨_, rfl⟩, ⟨_, rfl⟩, ⟨_, rfl⟩, ⟨_, rfl⟩, _, _, _, _, Lib.hid (GN.out (X.drewN nq) ⟨rfl, rfl, rfl, Nat.le_refl _, fun _ _ => rfl⟩), CN⟩, ?_⟩
                                exact Nat.lt_of_le_of_lt (Nat.le_of_eq (GN.out (X.drewN nq) ⟨rfl, rfl, rfl, Nat.le_refl _, fun _ _ => rfl⟩).rg.left_eq) (by rw [ORG.out]; exact hlt)
end Go.Proofs.YtniklmikdkjgiaaGreatDoor
