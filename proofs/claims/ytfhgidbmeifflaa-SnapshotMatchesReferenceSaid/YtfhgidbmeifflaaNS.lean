/- WALK: Collect. -/
import Derived.Test.YtfhgidbmeifflaaNQ
import Derived.Deep.RegionHeld3
import Derived.Deep.DeepCutAuto
set_option linter.unusedSimpArgs false
set_option linter.unusedVariables false
namespace Go.Proofs.Ytfhgidbmeifflaa
open Go.RowKit Go.Maps Go.ChangeMaps Go.MapKept Go.WideShapes Go.WideMaps

theorem keyi_inv {key : Value} {x : Int} (h : keyOf Try.prog 3 key = some (.int .i64 x)) : key = .int .i64 x := by
  cases key <;> simp [keyOf, Try.underlying3, mapKey] at h
  obtain ⟨⟨rfl, _⟩, rfl⟩ := h
  rfl
theorem belowD {w w' : World} (h : Below w.drew.heap.size w.drew w') : Below w.heap.size w w' := ⟨h.os, h.tape, h.output, h.size, h.block⟩
theorem collect_nil (w : World) : Calls Try.prog 20 #[.pointer none] w fun e w' => e = .returned (.int .i64 0) ∧ w' = w := by
  go_enter Try.func20, Try.ntmps20
  go_wp2_with fail
  go_ret
  exact ⟨rfl, rfl⟩
def CollectPost (w : World) (p : Nat) (F : Nat → Prop) (s : Sh) (e : Ending) (w' : World) : Prop :=
  ∃ (ts : List Nat) (n0 n1 : Nat), TimesOf s ts ∧ Sn.HeldIs s.keys n0 ∧ Sn.HeldIs (collectF s ts).keys n1 ∧ e = .returned (.int .i64 ((n0 : Int) - (n1 : Int))) ∧ ShPost w p F (collectF s ts) w'
set_option maxHeartbeats 8000000 in
set_option maxRecDepth 100000 in
theorem collect_any (p : Nat) (F : Nat → Prop) (s : Sh) (w : World) (hI : ShInv s) (hR : s.nrd ≤ 64) (h : ShAt w p F s) :
    Calls Try.prog 20 #[.pointer (some ⟨p, 0, none⟩)] w (CollectPost w p F s) := by
  obtain ⟨bm, br, nk, hd, h⟩ := h
  have H := Lib.hid h
  have HI := Lib.hid hI
  have CLK := hI.clk
  obtain ⟨x0, x1, x2, x3, x4⟩ := h.cells
  have h2 : ∀ u : World, (Instr.makeMap 69 none).run Try.prog u = .ok (.map (some u.heap.size)) (u.alloc (.map #[] 0)) := fun u => run_makeMap _ _
  have m0 := MapAt.made w Try.prog 3
  obtain ⟨u1, hup, m1, hg1⟩ := m0.upd intK Try.underlying69 (by unfold maxLen; omega) (key_nat s.clk (by omega)) (.bool true)
  rw [boolM_none, boolM_upd] at m1
  have e0 : (fun y => (fun _ => false) y || decide (y = ((s.clk : Nat) : Int))) = inN [s.clk] := by
    rw [← inN_cons]; funext y; simp [inN]
  rw [e0] at m1
  have hbu : Below w.heap.size w u1 := ⟨hg1.os, hg1.tape, hg1.output, Nat.le_trans (by simp) hg1.size, fun k hk => (hg1.block k (by simp; omega) (fun e => by cases e; omega)).trans (alloc_old _ _ hk)⟩
  have H1 := h.below hbu
  have x1' : (w.alloc (.map #[] 0)).cell? ⟨p, 1, none⟩ = some (.int .i64 (s.clk : Int)) := (World.cell?_of_block (a := ⟨p, 1, none⟩) (alloc_old _ _ (h.lt p h.fp))).trans x1
  have zu : w.heap.size < u1.heap.size := Nat.lt_of_lt_of_le (by simp) hg1.size
  obtain ⟨y0, y1, y2, y3, y4⟩ := H1.cells
  obtain ⟨u2, hr2, hrg2, hg2, hs2⟩ := H1.rm.range intK Try.underlying51
  have ST : Hid (TimR w s br w.heap.size u1.heap.size u2 (fun kl => (rdM s.rd kl).isSome) s.nrd (0 + if ((fun _ => none : Lit → Option Value) (.int .i64 (s.clk : Int))).isSome then 0 else 1) [s.clk]) := Lib.hid
    ⟨hrg2, m1.kept hg2 (by simp), hbu.trans ⟨hg2.os, hg2.tape, hg2.output, hg2.size, fun k hk => hg2.block k (Nat.lt_of_lt_of_le hk hbu.size) (by simp)⟩, by simp, fun c hc => .inl (by simpa using hc), fun i c hi => .inr (by rw [rdM_nat, hi]; rfl), by simp⟩
  clear h hI m0 m1 hg1 H1 hrg2 hg2 hs2 e0
  generalize hz : w.heap.size = z at *
  generalize hr : u1.heap.size = r at *
  go_enter Try.func20, Try.ntmps20
  go_wp2_with fail
  have hbr : br < z := by rw [← hz]; exact H.out.lt br H.out.fr
  have hbm : bm < z := by rw [← hz]; exact H.out.lt bm H.out.fm
  go_loopw [5] (fun s5 wx => ∃ (left : Lit → Bool) (cnt nt : Nat) (ts : List Nat), Hid (TimR w s br z r wx left cnt nt ts)) (fun _ wx => wx.rangeLeft br r)
  case atStart => exact ⟨_, _, _, _, ST⟩
  case round =>
    clear ST hr2 hup x0 x1 x2 x3 x4 y0 y1 y2 y3 y4 x1'
    obtain ⟨left, cnt, nt, ts, hR1⟩ := hrel
    rcases hR1.out.rg.next intK 0 with ⟨hc0, hl0, hnx⟩ | ⟨key, v, kl, w1, cnt', hkey, hlk, hM, hnx, hrg1, hlt, hgr1, hs1, hen⟩
    · have TO := Lib.hid (hR1.out.done hl0)
      have tm := hR1.out.tm
      have bl := hR1.out.bel
      have LN : nt ≤ 65 := by have := hR1.out.len; omega
      have hw := H.out.below bl
      have HD := Lib.hid (held_any p F s wr HI.out ⟨bm, br, nk, hd, hw⟩)
      clear hR1 hl0 hc0
      go_wp2_with fail
      refine HD.out.mono ?_
      rintro e w3 ⟨n0, rfl, hh0, hn0, hb3⟩
      have h3 := hw.below hb3
      obtain ⟨y0, y1, y2, y3, y4⟩ := h3.cells
      obtain ⟨w4, hr4, hrg4, hg4, hs4⟩ := h3.km.range strK Try.underlying50
      have b4 : Below w3.heap.size w3 w4 := ⟨hg4.os, hg4.tape, hg4.output, hg4.size, fun k hk => hg4.block k hk (by simp)⟩
      have zr2 : z < w3.heap.size := Nat.lt_of_lt_of_le tm.lt hb3.size
      have CR : Hid (ColR w p F s ts bm br z w3.heap.size nk nt w4 (fun kl => (keyM hd kl).isSome) nk hd []) := Lib.hid
        ⟨by rw [collK_nil]; exact h3.below b4, hrg4, (tm.same (hb3.block _ tm.lt)).same (b4.block _ zr2), But.of_below (bl.trans ((hb3.mono bl.size).trans (b4.mono (Nat.le_trans bl.size hb3.size)))), fun t h => (by cases h), fun t h => .inr h⟩
      have HH0 := Lib.hid hh0
      have NK : nk ≤ 100000 := Nat.le_trans H.out.nk HI.out.lim
      clear HD tm bl hw hb3 h3 hrg4 hg4 hs4 b4 hh0 hnx
      generalize hr2 : w3.heap.size = r2 at *
      go_wp2_with fail
      go_loopw [7] (fun s7 wx => ∃ (left : Lit → Bool) (cnt : Nat) (hd2 : List UInt8 → Option Value) (done : List Tx), Hid (ColR w p F s ts bm br z r2 nk nt wx left cnt hd2 done)) (fun _ wx => wx.rangeLeft bm r2)
      case atStart => exact ⟨_, _, _, _, CR⟩
      case round =>
        clear CR hr4 y0 y1 y2 y3 y4
        obtain ⟨left, cnt, hd2, done, hC⟩ := hrel
        rcases hC.out.rg.next strK 0 with ⟨hc0, hl0, hnx⟩ | ⟨key, v, kl, w1, cnt', hkey, hlk, hM, hnx, hrg1, hlt, hgr1, hs1, hen⟩
        · have DK := hC.out.done' hl0
          have sh := hC.out.sh
          have bt := hC.out.but
          rw [DK] at sh
          have hI1 := collectF_inv HI.out ts
          have HD := Lib.hid (held_any p F (collectF s ts) wr hI1 ⟨bm, br, nk, hd2, sh⟩)
          have SH := Lib.hid sh
          have BT := Lib.hid bt
          clear hC hl0 hc0 DK sh bt hI1
          go_wp2_with fail
          refine HD.out.mono ?_
          rintro e w5 ⟨n1, rfl, hh1, hn1, hb5⟩
          have HH1 := Lib.hid hh1
          have B5 := Lib.hid hb5
          have wr1 : IntKind.i64.wrap ((n0 : Int) - (n1 : Int)) = (n0 : Int) - (n1 : Int) := IntWalk.i64_in _ (by omega)
          clear hh1 hb5 HD
          go_wp2_with fail
          go_ret
          exact ⟨ts, n0, n1, TO.out, HH0.out, HH1.out, rfl, F, ⟨bm, br, nk, hd2, SH.out.below B5.out⟩, fun g hg => .inl hg, BT.out.trans (But.of_below B5.out)⟩
        · obtain ⟨t, rfl, hv⟩ := keyM_inv hM
          obtain rfl := key_inv hkey
          have htd : t ∉ done := fun hm => by rw [hC.out.dn t hm] at hlk; cases hlk
          have hFz : ∀ g, F g → g < z := fun g hg => by rw [← hz]; exact H.out.lt g hg
          have sh1 := hC.out.sh.keep (w' := w1) (by rw [hs1]; exact Nat.le_refl _) (fun g hg => hgr1.block g (hC.out.sh.lt g hg) (fun e => by cases e; have := hFz _ hg; omega))
          obtain ⟨hne, own⟩ := sh1.row t v hv
          dsimp only at hne own
          rw [collK_out _ _ htd] at hne own
          have ORD := HI.out.ord t
          have UP := HI.out.upto t
          have LEN := HI.out.len t
          have hkt : s.keys t = collK s.keys ts done t := (collK_out _ _ htd).symm
          generalize hl : s.keys t = l at *
          have HL := Lib.hid hl
          have pos : 0 < l.length := List.length_pos_iff.2 hne
          obtain ⟨g, cap, rfl, -, hgz⟩ := own.form pos
          have hgF : F g := sh1.frow t _ g hv rfl
          have gz := hFz g hgF
          have ORG := hC.out.rg.left_eq
          have TM1 := hC.out.tm.kept hgr1 (by intro e; cases e; omega)
          have NEs := sh1.row_ne hv (g := g) rfl
          have BUT1 : But F w w1 := ⟨hgr1.os.trans hC.out.but.os, hgr1.tape.trans hC.out.but.tape, hgr1.output.trans hC.out.but.output, Nat.le_trans hC.out.but.size hgr1.size, fun k hk hx => (hgr1.block k (Nat.lt_of_lt_of_le hk hC.out.but.size) (fun e => by cases e; omega)).trans (hC.out.but.block k hk hx)⟩
          have HH := Lib.hid hC.out.all
          have HDN := Lib.hid hC.out.dn
          have SH1 := Lib.hid sh1
          have OW := Lib.hid own
          have RG1 := Lib.hid hrg1
          have T1 := Lib.hid TM1
          have B1 := Lib.hid BUT1
          have ORDH := Lib.hid ORD
          have UPH := Lib.hid UP
          have HNE := Lib.hid hne
          have HV := Lib.hid hv
          have zw1 : r2 < w1.heap.size := hrg1.lt
          have made := MapAt.made w1 Try.prog 3
          rw [boolM_none] at made
          have ob : ∀ k, k < w1.heap.size → ((w1.alloc (.map #[] 0)).alloc (.cells #[.map (some w1.heap.size)] 69)).heap[k]? = w1.heap[k]? := fun k hk => (alloc_old _ _ (by simp; omega)).trans (alloc_old _ _ hk)
          obtain ⟨a3, hr3, hrg3, hg3, hs3⟩ := (TM1.same (ob z TM1.lt)).range intK Try.underlying69
          have A2 : ((w1.alloc (.map #[] 0)).alloc (.cells #[.map (some w1.heap.size)] 69)).heap.size = w1.heap.size + 1 + 1 := by simp
          have b3 : Below w1.heap.size w1 a3 := ⟨hg3.os, hg3.tape, hg3.output, Nat.le_trans (by simp; omega) hg3.size, fun k hk => (hg3.block k (by simp; omega) (by simp)).trans (ob k hk)⟩
          have ix : Hid (IdxR w1 ts l z w1.heap.size (w1.heap.size + 1) (w1.heap.size + 1 + 1) nt a3 (fun kl => (boolM (inN ts) kl).isSome) nt 0 []) := Lib.hid (by
            rw [A2] at hrg3
            refine ⟨hrg3, ?_, ?_, b3, fun c hc => (by cases hc), fun c hc => .inr ?_, by simp⟩
            · exact (made.same (alloc_old _ _ (by simp))).kept hg3 (by simp)
            · refine (hg3.block _ (by simp) (by simp)).trans ?_
              exact alloc_new' _ _ _ (by simp)
            · show (boolM (inN ts) (.int .i64 (c : Int))).isSome = true
              simp [boolM, (inN_iff ts c).2 hc])
          rw [A2] at hr3
          have HKT := Lib.hid hkt
          have HKEY := Lib.hid hkey
          clear hkt hl hC hM hkey hlk hrg1 hgr1 sh1 own TM1 BUT1 ORD UP hne hs1 hv made hrg3 hg3 hs3 b3 A2 ob
          have w1z : w1.heap.size < w1.heap.size + 1 := Nat.lt_succ_self _
          generalize hbn : w1.heap.size = bn at *
          go_wp2_with fail
          go_loopw [10] (fun s10 wy => ∃ (left3 : Lit → Bool) (cnt3 nn : Nat) (d : List Nat), Hid (IdxR w1 ts l z bn (bn + 1) (bn + 1 + 1) nt wy left3 cnt3 nn d)) (fun _ wy => wy.rangeLeft z (bn + 1 + 1))
          case atStart => exact ⟨_, _, _, _, ix⟩
          case round =>
            clear ix hr3 hnx hen
            obtain ⟨left3, cnt3, nn, d, hX⟩ := hrel
            rcases hX.out.rg.next intK 0 with ⟨hc0, hl0, hnx⟩ | ⟨key, v, kl, y1, cnt4, hkey, hlk, hM, hnx, hrg4, hlt4, hgr4, hs4, hen⟩
            · have hd3 : ∀ c, c ∈ d ↔ c ∈ ts := fun c => ⟨hX.out.sub c, fun h => (hX.out.all c h).resolve_right (by rw [hl0]; simp)⟩
              have IN := idx_need (l := l) hd3
              have bel := hX.out.bel
              have zx : bn + 1 < wr.heap.size := lt_of_block hX.out.c9
              have co : Clo (wr.alloc (.cells #[.int .i64 (-1)] 3)) wr.heap.size (bn + 1) bn (idxN l d) nn (-1) := ⟨heap_alloc_new wr _, (alloc_old _ _ zx).trans hX.out.c9, hX.out.nm.same (alloc_old _ _ hX.out.nm.lt)⟩
              have bel4 : Below w1.heap.size w1 (wr.alloc (.cells #[.int .i64 (-1)] 3)) := bel.alloc bel.size _
              have own4 : (wr.alloc (.cells #[.int .i64 (-1)] 3)).ownsRow 0 62 4 (.slice (some ⟨g, 0, none⟩) l.length cap) l.length (rows l) := OW.out.kept (row := none) ⟨bel4.os, bel4.tape, bel4.output, bel4.size, fun k hk _ => bel4.block k hk⟩ (.inr (fun e => by cases e))
              have DP := delete_any g l.length cap l 0 wr.heap.size (bn + 1) bn nn (idxN l d) _ rfl (by omega) own4 (by omega) (by omega) (by omega) co
              have lcn := colls_ne HNE.out TO.out.ck UPH.out
              unfold DelPost at DP
              rw [IN] at DP
              change Calls _ _ _ _ (fun e w' => e = .returned (.slice (some ⟨g, 0, none⟩) (Sn.colls l ts).length cap) ∧ w'.ownsRow 0 62 4 (.slice (some ⟨g, 0, none⟩) (Sn.colls l ts).length cap) (Sn.colls l ts).length (rows (Sn.colls l ts)) ∧ But (fun x => x = wr.heap.size ∨ x = g) (wr.alloc (.cells #[.int .i64 (-1)] 3)) w') at DP
              have CK := collK_step s.keys ts (done := done) (t := t)
              rw [HL.out] at CK
              generalize hlc : Sn.colls l ts = lc at *
              have lpos : 0 < lc.length := List.length_pos_iff.2 lcn
              have lz : ¬ (lc.length : Int) = 0 := by omega
              have DPH := Lib.hid DP
              have CKH := Lib.hid CK
              have B4 := Lib.hid bel4
              have LC := Lib.hid lcn
              clear hX hd3 IN bel co own4 DP hlc CK bel4 lcn hl0 hc0
              go_wp2_with fail
              refine DPH.out.mono ?_
              rintro e w5 ⟨rfl, ho5, hb5⟩
              have keep5 : ∀ k, k < bn → k ≠ g → w5.heap[k]? = w1.heap[k]? := fun k hk hne => by
                have := B4.out.size
                exact (hb5.block k (by simp; omega) (by omega)).trans (B4.out.block k (by omega))
              have b2 : bm < bn := by omega
              obtain ⟨w6, hup6, hrg6, hg6⟩ := (RG1.out.same (keep5 bm b2 (fun e => NEs.2.1 e.symm)) (keep5 r2 zw1 (by omega))).store strK Try.underlying50 (by unfold maxLen; omega) HKEY.out (by show (hd2 t).isSome = true; rw [HV.out]; rfl) (.slice (some ⟨g, 0, none⟩) lc.length cap)
              have H5 := SH1.out
              have y5 : ∀ f u, (#[Value.int .i64 (s.ver : Int), .int .i64 (s.clk : Int), .map (some bm), .map (some br), .int .i64 (s.opn : Int)] : Array Value)[f]? = some u → w5.cell? ⟨p, f, none⟩ = some u := fun f u hu => by
                rw [cell_of_row w5 p f _ _ _ ((keep5 p (by have := H5.lt p H5.fp; omega) (fun e => NEs.1 e.symm)).trans H5.blk)]; exact hu
              have y2 : w5.cell? ⟨p, 2, none⟩ = some (.map (some bm)) := y5 2 _ rfl
              have O5 := Lib.hid ho5
              have B5 := Lib.hid hb5
              have K5 := Lib.hid keep5
              have RG6 := Lib.hid hrg6
              have G6 := Lib.hid hg6
              clear ho5 hb5 keep5 hrg6 hg6 H5 y5 DPH
              go_wp2_with fail
              clear hup6 y2 lz
              have keep6 : ∀ k, k < bn → k ≠ g → k ≠ bm → w6.heap[k]? = w1.heap[k]? := fun k hk h1 h2 => by
                have := B5.out.size
                have := B4.out.size
                refine (G6.out.block k ?_ (fun e => by cases e; exact h2 rfl)).trans (K5.out k hk h1)
                have h3 := lt_of_block ((K5.out p (by have := SH1.out.lt p SH1.out.fp; omega) (fun e => NEs.1 e.symm)).trans SH1.out.blk)
                have h4 : bn < w5.heap.size := by
                  have q := B4.out.size
                  have q1 := B5.out.size
                  have q2 : wr.heap.size < (wr.alloc (.cells #[.int .i64 (-1)] 3)).heap.size := by simp
                  omega
                omega
              have z6 : w1.heap.size ≤ w6.heap.size := Nat.le_trans B4.out.size (Nat.le_trans B5.out.size G6.out.size)
              have PUT := SH1.out.put (w' := w6) (s' := { s with keys := collK s.keys ts (t :: done) }) t (.slice (some ⟨g, 0, none⟩) lc.length cap) lc z6
                (fun k hk h1 h2 h3 => keep6 k (by have := SH1.out.lt k hk; omega) (fun e => by cases e; exact h3 _ HV.out rfl) h2)
                ((keep6 p (by have := SH1.out.lt p SH1.out.fp; omega) (fun e => NEs.1 e.symm) (fun e => SH1.out.ne_p.1 e.symm)).trans SH1.out.blk)
                RG6.out.at_ LC.out (O5.out.kept G6.out (.inr (fun e => by
                  have e : some g = some bm := e
                  cases e; exact NEs.2.1 rfl))) (fun k hk => .inr ⟨_, HV.out, hk⟩) CKH.out rfl rfl SH1.out.nk
              have FE : (fun k => F k ∨ (Value.slice (some ⟨g, 0, none⟩) lc.length cap).ownBlock = some k) = F := by
                funext k
                refine propext ⟨fun h => h.elim id (fun e => ?_), .inl⟩
                have e : some g = some k := e
                cases e; exact hgF
              rw [FE] at PUT
              have rg := RG6.out
              rw [keyM_upd] at rg
              refine ⟨⟨_, cnt', _, t :: done, Lib.hid ⟨PUT, rg, T1.out.same (keep6 z (by omega) (by omega) (by omega)), ?_, ?_, ?_⟩⟩, by rw [rg.left_eq, ORG]; exact hlt⟩
              · exact ⟨(G6.out.os.trans B5.out.os).trans (B4.out.os.trans B1.out.os), (G6.out.tape.trans B5.out.tape).trans (B4.out.tape.trans B1.out.tape), (G6.out.output.trans B5.out.output).trans (B4.out.output.trans B1.out.output), Nat.le_trans B1.out.size z6, fun k hk hx =>
                  (keep6 k (by omega) (fun e => hx (e ▸ hgF)) (fun e => hx (e ▸ SH1.out.fm))).trans (B1.out.block k hk hx)⟩
              · intro t' ht'
                rcases List.mem_cons.1 ht' with rfl | hm
                · simp [same_str]
                · show (left (.string t') && _) = false
                  rw [HDN.out t' hm]; rfl
              · intro t' ht'
                by_cases e : t' = t
                · exact .inl (by simp [e])
                · rw [setK_ne _ _ e] at ht'
                  rcases HH.out t' ht' with h1 | h1
                  · exact .inl (List.mem_cons_of_mem _ h1)
                  · exact .inr (by simp [same_str, h1, e])
            · obtain ⟨c, rfl, hc, rfl⟩ := boolM_inv hM
              obtain rfl := keyi_inv hkey
              have cle : c ≤ 10000 := Nat.le_trans (TO.out.le HI.out c hc) CLK
              have b41 : Below w1.heap.size w1 y1 := hX.out.bel.trans ⟨hgr4.os, hgr4.tape, hgr4.output, hgr4.size, fun k hk => hgr4.block k (Nat.lt_of_lt_of_le hk hX.out.bel.size) (fun e => by cases e; omega)⟩
              have RDl : Hid (Rd y1.drew (some ⟨g, 0, none⟩) (rows l)) := Lib.hid (fun hx => by
                obtain ⟨b, off, e, hz, hc⟩ := ((own_rd OW.out).below b41) hx
                exact ⟨b, off, e, hz, hc⟩)
              have AT := Lib.hid (fun u (hu : Rd u (some ⟨g, 0, none⟩) (rows l)) => snat_any (some ⟨g, 0, none⟩) l.length cap l c u rfl (by omega) ORDH.out (fun v hv => by have := UPH.out v hv; omega) (by omega) hu)
              have c9 : y1.heap[bn + 1]? = some (.cells #[.map (some bn)] 69 (0, 0)) := (hgr4.block _ (lt_of_block hX.out.c9) (fun e => by cases e)).trans hX.out.c9
              have nm1 := hX.out.nm.kept hgr4 (by intro e; cases e)
              have LN3 := hX.out.len
              have CNT := Sn.cntAt_le l c
              have ORG3 := hX.out.rg.left_eq
              have NX := Lib.hid (fun (y2 y3 : World) (nn' : Nat) hb hm hnn hg => hX.out.step (w2 := y2) (w3 := y3) (nn' := nn') (by omega) (by omega) hc hrg4 hlt4 hgr4 hb hm hnn hg (by omega) (by omega) (by omega) (by omega) (lt_of_block hX.out.c9) hX.out.rg.lt hX.out.rg.at_.lt)
              have NM1 := Lib.hid nm1
              have C9H := Lib.hid c9
              clear hX hM hkey hlk hrg4 hgr4 b41 nm1 hs4
              generalize hq : Sn.cntAt l c = q at *
              clear hq
              go_wp2_with fail
              have K0 : KeepB (bn + 1) (.cells #[.map (some bn)] 69 (0, 0)) y1.drew := C9H.out
              have K9 : ∀ w', KeepB (bn + 1) (.cells #[.map (some bn)] 69 (0, 0)) w' → w'.cell? ⟨bn + 1, 0, none⟩ = some (.map (some bn)) := fun w' h => cell_of_row w' (bn + 1) 0 _ _ _ h
              (refine wp_region_noPanic ?_; refine wp_region_held_drew (S := (fun w' => KeepB (bn + 1) (.cells #[.map (some bn)] 69 (0, 0)) w')) (by kernel_rfl) ?_ (fun hHeld => ?_); exact K0)
              (refine wpAnyH_take (i := 0) (oi := _) (v := ?_) rfl (by kernel_rfl) (by kernel_rfl) (by kernel_rfl) (fun _ _ _ h => h) (Or.inl ⟨?_, ?_⟩) (by assumption) ?_; rotate_left; (focus (first | rfl | (simp [Region.wanted, yielded]; done))); (focus (intro w hSw; (try dsimp only at hSw); go_simp; all_goals (with_reducible rfl))); try simp only [Act.put, List.getElem_toArray, List.getElem_cons_zero, List.getElem_cons_succ, List.setIfInBounds_toArray, List.set_cons_zero, List.set_cons_succ])
              (refine wpAnyH_take (i := 1) (oi := _) (v := ?_) rfl (by kernel_rfl) (by kernel_rfl) (by kernel_rfl) (fun _ _ _ h => h) (Or.inl ⟨?_, ?_⟩) (by assumption) ?_; rotate_left; (focus (first | rfl | (simp [Region.wanted, yielded]; done))); (focus (intro w hSw; (try dsimp only at hSw); go_simp; all_goals (with_reducible rfl))); try simp only [Act.put, List.getElem_toArray, List.getElem_cons_zero, List.getElem_cons_succ, List.setIfInBounds_toArray, List.set_cons_zero, List.set_cons_succ])
              (refine wpAnyH_take (i := 2) (oi := _) (v := ?_) rfl (by kernel_rfl) (by kernel_rfl) (by kernel_rfl) (fun _ _ _ h => h) (Or.inl ⟨?_, ?_⟩) (by assumption) ?_; rotate_left; (focus (first | rfl | (simp [Region.wanted, yielded]; done))); (focus (intro w hSw; (try dsimp only at hSw); go_simp; all_goals (with_reducible rfl))); try simp only [Act.put, List.getElem_toArray, List.getElem_cons_zero, List.getElem_cons_succ, List.setIfInBounds_toArray, List.set_cons_zero, List.set_cons_succ])
              (refine wpAnyH_ready (rs := [3]) (by kernel_rfl) (by simp) ?_; refine AllReadyH.cons (o := _) rfl (fun K hK => ?_) AllReadyH.nil; go_simp)
              (with_reducible refine (AT.out _ RDl.out).mono ?_)
              rintro e y2 ⟨rfl, hb2'⟩
              have hb2 := belowD hb2'
              clear hb2'
              have K2 := (hb2.block _ (lt_of_block K0)).trans K0
              obtain ⟨y3, hup3, hm3, hg3⟩ := (NM1.out.same (hb2.block _ NM1.out.lt)).upd intK Try.underlying69 (by unfold maxLen; omega) (key_int ((q : Int) - 1) (by omega) (by omega)) (.bool true)
              (refine hK.out _ _ K2 (fun hHeld2 => ?_); clear hK K hHeld; have hHeld := hHeld2; clear hHeld2; try simp only [Act.put, List.getElem_toArray, List.getElem_cons_zero, List.getElem_cons_succ, List.setIfInBounds_toArray, List.set_cons_zero, List.set_cons_succ])
              (refine wpAnyH_ready (rs := [4]) (by kernel_rfl) (by simp) ?_; refine AllReadyH.cons (o := _) rfl (fun K hK => ?_) AllReadyH.nil; go_simp)
              have K3 := (hg3.block _ (lt_of_block K2) (fun e => by cases e)).trans K2
              (refine hK.out _ _ K3 (fun hHeld2 => ?_); clear hK K hHeld; have hHeld := hHeld2; clear hHeld2; try simp only [Act.put, List.getElem_toArray, List.getElem_cons_zero, List.getElem_cons_succ, List.setIfInBounds_toArray, List.set_cons_zero, List.set_cons_succ])
              (refine wpAnyH_done (by kernel_rfl) ?_ _; refine NoPanic.normal ?_)
              have NX3 := Lib.hid (NX.out y2 y3 _ hb2 hm3 (by split <;> omega) hg3)
              clear hHeld K9 hup3 hb2 hm3 hg3 NX
              go_wp2_with fail
              exact ⟨⟨_, _, _, _, NX3⟩, by rw [NX3.out.rg.left_eq, ORG3]; exact hlt4⟩
    · obtain ⟨i, c, rfl, hi, rfl⟩ := rdM_inv hM
      have hc := (HI.out.rdc i c hi).1
      have T1 := hR1.out.tm.kept hgr1 (by intro e; cases e; omega)
      have ORG := hR1.out.rg.left_eq
      have LN := hR1.out.len
      obtain ⟨w2, hup2, hm2, hg2⟩ := T1.upd intK Try.underlying69 (by unfold maxLen; omega) (key_nat c (by omega)) (.bool true)
      have NX := Lib.hid (hR1.out.step (by omega) (by omega) hi hrg1 hlt hgr1 hm2 (by split <;> omega) hg2 (by omega) (by omega))
      clear hM hkey hrg1 hgr1 hlk T1 hm2 hg2 hR1 LN hs1
      go_wp2_with fail
      exact ⟨⟨_, _, _, _, NX⟩, by rw [NX.out.rg.left_eq, ORG]; exact hlt⟩
end Go.Proofs.Ytfhgidbmeifflaa
