/-
  What tseitin.Encode returns.
-/
import Derived.Test.YtlifakbdgmdafaaEncode
namespace Go.Proofs.Ytlifakbdgmdafaa
open Go Go.RowKit

theorem OwnRows.V {w : World} {Av : Nat → Prop} {base : Nat} {v : Value} {L : List (List Int)} (h : OwnRows w Av base v L) : RowsV w w.heap.size v L := by
  obtain ⟨rvs, h1, h2⟩ := h
  have hlen : rvs.length = L.length := by have := h1.1; omega
  rcases h1.2 with ⟨rfl, hn⟩ | ⟨g, cap, cur, rfl, _, hg, hnc, hcm, _, htake⟩
  · exact ⟨none, 0, by rw [hn], by omega, by unfold maxLen; omega, fun hp => by omega⟩
  · refine ⟨_, cap, rfl, hnc, hcm, fun _ => ⟨g, 0, (Array.getElem?_eq_some_iff.1 hg).1, rfl, fun i x hx => ?_⟩⟩
    obtain ⟨rv, h3, h4, _⟩ := h2 i x hx
    refine ⟨rv, ?_, h4.V⟩
    rw [show 0 + i * 1 = i from by omega, cell_of_row w g i cur _ (0, 0) hg]
    have hi : i < L.length := (List.getElem?_eq_some_iff.1 hx).1
    have h5 : (cur.toList.take (L.length * 1))[i]? = some rv := by rw [htake]; exact h3
    rw [List.getElem?_take_of_lt (by omega)] at h5
    simpa using h5
theorem Enc.setInt {w : World} {Av : Nat → Prop} {base ge g : Nat} {s : ES} {cs : Array Value} (h : Enc w Av base ge s) (hb : Blk w g 3 cs) (hA : ¬ Av g) (i : Nat) (u : Value) : Enc (w.setCell ⟨g, i, none⟩ u) Av base ge s := by
  obtain ⟨h1, A, c, h2, rvs, h3, h4⟩ := h
  refine ⟨h1, A, c, h2.far (h2.apart hb (by decide)) _, rvs, own_setCell h3 (by exact own_blk_ne h3 hb (by decide)) _, fun i c hc => ?_⟩
  obtain ⟨rv, h5, h6, h7⟩ := h4 i c hc
  exact ⟨rv, h5, own_setCell h6 (fun e => hA (h7 g e)) _, h7⟩
theorem Enc.start (w : World) (Av : Nat → Prop) (base : Nat) (hb : base ≤ w.heap.size) (n : Int) : Enc (w.alloc (.cells #[.int .i64 n, .slice none 0 0, .bool false] 57)) Av base w.heap.size ⟨n, [], false⟩ :=
  ⟨hb, none, 0, Blk.new _ _ _, [], World.ownsRow_nil _ _ _ _, fun i c hc => by simp at hc⟩
theorem OwnRows.setCell {w : World} {Av : Nat → Prop} {base g : Nat} {v : Value} {L : List (List Int)} {t : TypeId} {cs : Array Value} (h : OwnRows w Av base v L) (hb : Blk w g t cs) (h1 : 30 ≠ t) (h2 : 3 ≠ t) (i : Nat) (u : Value) : OwnRows (w.setCell ⟨g, i, none⟩ u) Av base v L := by
  obtain ⟨rvs, h3, h4⟩ := h
  refine ⟨rvs, own_setCell h3 (by exact own_blk_ne h3 hb h1) _, fun j c hc => ?_⟩
  obtain ⟨rv, h5, h6, h7⟩ := h4 j c hc
  exact ⟨rv, h5, own_setCell h6 (by exact own_blk_ne h6 hb h2) _, h7⟩
theorem OwnRows.below {w w' : World} {Av : Nat → Prop} {base : Nat} {v : Value} {L : List (List Int)} (h : OwnRows w Av base v L) (hb : Below w.heap.size w w') : OwnRows w' Av base v L := by
  obtain ⟨rvs, h3, h4⟩ := h
  refine ⟨rvs, own_below h3 hb, fun j c hc => ?_⟩
  obtain ⟨rv, h5, h6, h7⟩ := h4 j c hc
  exact ⟨rv, h5, h6.below hb, h7⟩
theorem last_at (l : List Int) (n : Nat) (hn : l.length = n) (hp : 0 < n) : l.getLastD 0 = l[n - 1]'(by omega) := by
  subst hn
  rw [List.getLastD_eq_getLast?, List.getLast?_eq_getElem?, List.getElem?_eq_getElem (by omega)]; rfl
theorem encGo_nil (s : ES) (gate : List Int) : encGo s gate [] = some (s, gate) := rfl

set_option maxRecDepth 100000 in
set_option maxHeartbeats 6400000 in
theorem tseitin_encode (N : Int) (V : Value) (gs : List Gate) (w : World) (B : Nat) (hB : B ≤ w.heap.size) (hg : GatesV w B V gs) (hs : sizeOf gs ≤ 4611686018427387904) :
    Calls Try.prog 13 #[.agg #[.int .i64 N, V]] w fun e w' => (∃ LV GV, e = .returned (.tuple #[.agg #[.int .i64 (encodeOf N gs).n, LV], GV, .int .i64 (encodeOf N gs).e]) ∧ RowsV w' w'.heap.size LV (encodeOf N gs).L ∧ IntsV w' w'.heap.size GV (encodeOf N gs).gate) ∧ Below w.heap.size w w' := by
  obtain ⟨A, c, rfl, hlc, hcm, _⟩ := id hg
  unfold maxLen at hcm
  obtain ⟨r, hr⟩ : ∃ r, r = encodeOf N gs := ⟨_, rfl⟩
  rw [← hr]
  have HR := Lib.hid hr
  clear hr
  have k1 : ∀ W, Below w.heap.size w W → Calls Try.prog 30 #[.agg #[.int .i64 N, .slice A gs.length c]] W fun e w' => e = .returned (.int .i64 (checkOf N gs)) ∧ Below W.heap.size W w' :=
    fun W hW => circ_check N _ gs W B (Nat.le_trans hB hW.size) (hg.below (hW.mono hB)) hs
  obtain ⟨ck, hck⟩ : ∃ ck, ck = checkOf N gs := ⟨_, rfl⟩
  rw [← hck] at k1
  have HCK := Lib.hid hck
  have K1 := Lib.hid k1
  clear hck k1
  have nilR : ∀ W : World, RowsV W W.heap.size (.slice none 0 0) [] := fun W => ⟨none, 0, rfl, by simp, by unfold maxLen; omega, fun h => by simp at h⟩
  have nilI : ∀ W : World, IntsV W W.heap.size (.slice none 0 0) [] := fun W => ⟨none, 0, rfl, by simp, by unfold maxLen; omega, fun h => by simp at h⟩
  have NILR := Lib.hid nilR
  have NILI := Lib.hid nilI
  clear nilR nilI
  by_cases h0 : ck = 0
  · subst h0
    have hbd := check_bounds HCK.out.symm
    obtain ⟨hN0, hN1, hpos, hlen, hsz⟩ := hbd
    go_enter Try.func13, Try.ntmps13
    go_wp2_with fail
    refine (K1.out _ (by go_grown)).mono ?_
    rintro e w1 ⟨rfl, hb1⟩
    have blkc := (Blk.alloc (Blk.new w 24 #[.int .i64 N, .slice A gs.length c]) (.cells #[.int .i64 0, .slice none 0 0] 29)).keep hb1
    have blkt := (Blk.new_ (w := w.alloc (.cells #[.int .i64 N, .slice A gs.length c] 24)) (g := w.heap.size + 1) (t := 29) (cs := #[.int .i64 0, .slice none 0 0]) (by simp)).keep hb1
    have hbw : Below w.heap.size w w1 := Below.trans (by go_grown) (hb1.mono (by simp; omega))
    clear hb1
    have c0 := blkc.cell 0
    have c1 := blkc.cell 1
    simp at c0 c1
    have ltc := blkc.lt
    have ltt := blkt.lt
    have hmk := mk_ints gs.length (by omega)
    go_wp2
    have enc0 : Enc ((w1.alloc (.cells #[.int .i64 N, .slice none 0 0, .bool false] 57)).alloc (.cells (intCells (List.replicate gs.length 0)) 3)) (fun k => k ≠ w1.heap.size + 1) w.heap.size w1.heap.size ⟨N, [], false⟩ := (Enc.start w1 _ _ hbw.size N).below (by go_grown)
    have blkg : Blk ((w1.alloc (.cells #[.int .i64 N, .slice none 0 0, .bool false] 57)).alloc (.cells (intCells (List.replicate gs.length 0)) 3)) (w1.heap.size + 1) 3 (intCells (List.replicate gs.length 0)) := Blk.new_ (by simp)
    have ENC0 := Lib.hid enc0
    have BLKG := Lib.hid blkg
    have BLKC := Lib.hid blkc
    have BLKT := Lib.hid blkt
    clear enc0 blkg blkc blkt hmk
    go_loopw [31] (fun i wr => ∃ (k : Nat) (s : ES) (gate : List Int), k ≤ gs.length ∧ i = .int .i64 k ∧ encGo ⟨N, [], false⟩ [] gs = encGo s gate (gs.drop k) ∧ gate.length = k ∧ s.full = false ∧ s.ok ∧ (∀ x ∈ gate, -1000000 ≤ x ∧ x ≤ 1000000) ∧
        Blk wr w.heap.size 24 #[.int .i64 N, .slice A gs.length c] ∧ Blk wr (w.heap.size + 1) 29 #[.int .i64 0, .slice none 0 0] ∧ Enc wr (fun k => k ≠ w1.heap.size + 1) w.heap.size w1.heap.size s ∧
        Blk wr (w1.heap.size + 1) 3 (intCells (gate ++ List.replicate (gs.length - k) 0)) ∧ Below w.heap.size w wr ∧ w1.heap.size + 1 < wr.heap.size) (fun i _ => gs.length - (intOf i).toNat)
    case atStart =>
      exact ⟨0, ⟨N, [], false⟩, [], by omega, rfl, rfl, rfl, rfl, ⟨by simp, hN0, hN1⟩, by simp, (BLKC.out.alloc _).alloc _, (BLKT.out.alloc _).alloc _, ENC0.out, BLKG.out, (hbw.alloc (by omega) _).alloc (by simp; omega) _, by simp⟩
    case round =>
      obtain ⟨k, s, gate, hk, rfl, hgo, hgl, hfull, hok, hgb, hbc, hbt, hE, hbg, hb, hlt1⟩ := hrel
      obtain ⟨wo, rfl⟩ : ∃ wo : World, wo = wr := ⟨_, rfl⟩
      have HGO := Lib.hid hgo
      have HGL := Lib.hid hgl
      have HFULL := Lib.hid hfull
      have HOK := Lib.hid hok
      have HGB := Lib.hid hgb
      have HE := Lib.hid hE
      have HBG := Lib.hid hbg
      have HBC := Lib.hid hbc
      have HBT := Lib.hid hbt
      clear hgo hgl hfull hok hgb hE hbg hbc hbt
      by_cases hlt : k < gs.length
      · have hgood := check_gate HCK.out.symm k hlt
        obtain ⟨bb, oo, A', c', rfl, hbB, h0, h1, h2, hI, hnc, hcm'⟩ := hg.at_ (hb.mono hB) hlt
        have hbl : bb < wo.heap.size := by have := hb.size; omega
        have hdr : gs.drop k = gs[k] :: gs.drop (k + 1) := List.drop_eq_getElem_cons hlt
        have hsz1 : gs[k].inp.length ≤ 65536 := by
          have a1 := sizeTo_succ gs k hlt
          have a2 := sizeTo_le gs (k + 1)
          omega
        have hin := good_in' hgood
        have hal := hgood
        unfold goodGate at hal
        simp only [Bool.and_eq_true] at hal
        have hal := hal.1.1
        have hlit : -1000000 ≤ gs[k].lit ∧ gs[k].lit ≤ 1000000 := by
          have h3 := hgood
          unfold goodGate litGood at h3
          simp only [Bool.and_eq_true] at h3
          have h3 := h3.1.2
          split at h3
          · have := (litOk_iff _ _ hN0 hN1).1 h3; omega
          · simp at h3; omega
        generalize gs[k] = g at h0 h1 h2 hI hnc hdr hsz1 hin hal hlit
        obtain ⟨gk, gl, gi⟩ := g
        simp only at h0 h1 h2 hI hnc hsz1 hin hal hlit
        rw [hdr] at HGO
        have HIN := Lib.hid hin
        have HAL := Lib.hid hal
        have HLIT := Lib.hid hlit
        have hmk := mk_ints gi.length (by omega)
        clear hdr hgood hin hal hlit
        go_wp2
        have gb1 : Blk ((wo.alloc (.cells #[.int .i64 gk, .int .i64 gl, .slice A' gi.length c'] 44)).alloc (.cells (intCells (List.replicate gi.length 0)) 3)) (wo.heap.size + 1) 3 (intCells (List.replicate gi.length 0)) := Blk.new_ (by simp)
        have gb2 : Blk ((wo.alloc (.cells #[.int .i64 gk, .int .i64 gl, .slice A' gi.length c'] 44)).alloc (.cells (intCells (List.replicate gi.length 0)) 3)) wo.heap.size 44 #[.int .i64 gk, .int .i64 gl, .slice A' gi.length c'] := (Blk.new _ _ _).alloc _
        have hbe : Below wo.heap.size wo ((wo.alloc (.cells #[.int .i64 gk, .int .i64 gl, .slice A' gi.length c'] 44)).alloc (.cells (intCells (List.replicate gi.length 0)) 3)) := by go_grown
        have hsz2 : ((wo.alloc (.cells #[.int .i64 gk, .int .i64 gl, .slice A' gi.length c'] 44)).alloc (.cells (intCells (List.replicate gi.length 0)) 3)).heap.size = wo.heap.size + 2 := by simp
        have HSZ2 := Lib.hid hsz2
        have GB1 := Lib.hid gb1
        have GB2 := Lib.hid gb2
        clear hmk hsz2 gb1 gb2
        generalize ((wo.alloc (.cells #[.int .i64 gk, .int .i64 gl, .slice A' gi.length c'] 44)).alloc (.cells (intCells (List.replicate gi.length 0)) 3)) = w2 at HSZ2 GB1 GB2 hbe ⊢
        go_loopw [43] (fun j wi => ∃ (n : Nat) (m : List Int), n ≤ gi.length ∧ j = .int .i64 n ∧ m.length = gi.length ∧ m.take n = (inputsOf gate ⟨gk, gl, gi⟩).take n ∧ Blk wi (wo.heap.size + 1) 3 (intCells m) ∧ w2.grownBy wi (some (wo.heap.size + 1)) ∧
            Enc wi (fun k => k ≠ w1.heap.size + 1 ∧ k ≠ wo.heap.size + 1) w.heap.size w1.heap.size s) (fun j _ => gi.length - (intOf j).toNat)
        case atStart =>
          exact ⟨0, List.replicate gi.length 0, by omega, rfl, by simp, by simp, GB1.out, grownBy_refl _ _, (HE.out.mono (fun k hk h => ⟨h, by omega⟩)).below hbe⟩
        case round =>
          obtain ⟨n, m, hn, rfl, hm, hmt, hbm, hgr, hEi⟩ := hrel
          have HM := Lib.hid hm
          have HMT := Lib.hid hmt
          have HEI := Lib.hid hEi
          have HBM := Lib.hid hbm
          have HGR := Lib.hid hgr
          have hm1 : m.length ≤ gi.length := by omega
          have hm2 : gi.length ≤ m.length := by omega
          clear hm hmt hEi hbm hgr
          have hwi : wo.heap.size + 2 ≤ wr.heap.size := by have := HGR.out.size; have := HSZ2.out; omega
          have kb : ∀ (g : Nat) (t : TypeId) (cs : Array Value), g < wo.heap.size → Blk wo g t cs → Blk wr g t cs := fun g t cs hg hb => (hb.keep hbe).grown HGR.out (by intro e; injection e with e; omega)
          have KB := Lib.hid kb
          have gbk := GB2.out.grown HGR.out (by intro e; injection e with e; omega)
          have q2 := gbk.cell 2
          have q1 := gbk.cell 1
          have q0 := gbk.cell 0
          simp at q0 q1 q2
          clear kb
          by_cases hlt2 : n < gi.length
          · obtain ⟨b', o', rfl, hbB', hcell⟩ := hI.at_ (Below.refl _ _) hlt2
            have hcell' : wr.cell? ⟨b', o' + n, none⟩ = some (.int .i64 gi[n]) := by
              rw [World.cell?_of_block (w := w2) (w' := wr) (a := ⟨b', o' + n, none⟩) (HGR.out.block b' (by have := HSZ2.out; have := hb.size; omega) (by intro e; injection e with e; have := hb.size; omega)),
                World.cell?_of_block (w := wo) (w' := w2) (a := ⟨b', o' + n, none⟩) (hbe.block b' (by have := hb.size; omega))]
              exact hcell
            have hx := HIN.out n gi[n] (List.getElem?_eq_getElem hlt2)
            have htk : (inputsOf gate ⟨gk, gl, gi⟩).take (n + 1) = (inputsOf gate ⟨gk, gl, gi⟩).take n ++ [gate.getD gi[n].toNat 0] := by
              unfold inputsOf
              rw [List.take_succ_eq_append_getElem (by simpa using hlt2)]
              simp
            generalize gi[n] = x at hcell' hx htk
            clear hcell
            obtain ⟨hx0, hx1⟩ := hx
            obtain ⟨y, rfl⟩ := Int.eq_ofNat_of_zero_le hx0
            have hyk : y < k := by omega
            have hgk := (KB.out _ _ _ HBG.out.lt HBG.out).cell y
            rw [intCells_get _ _ (by simp; have := HGL.out; omega), List.getElem_append_left (by have := HGL.out; omega)] at hgk
            rw [Int.toNat_natCast, List.getD_eq_getElem?_getD, List.getElem?_eq_getElem (by have := HGL.out; omega), Option.getD_some] at htk
            generalize gate[y]'(by have := HGL.out; omega) = z at hgk htk
            have HTK := Lib.hid htk
            have cm := HBM.out.cell n
            have fm := HBM.out.free n
            rw [intCells_get m n (by omega)] at cm
            clear htk
            go_wp2
            go_roundw
            case rel =>
              refine ⟨n + 1, m.set n z, by omega, by go_num, by simp; exact HM.out, ?_, by rw [← intCells_set]; exact HBM.out.put _ _, ?_, HEI.out.setInt HBM.out (by simp) _ _⟩
              · rw [HTK.out, ← HMT.out, List.take_succ_eq_append_getElem (by simp; omega), List.take_set_of_le (Nat.le_refl _)]
                simp
              · exact ⟨HGR.out.os, HGR.out.tape, HGR.out.output, by simpa [World.setCell] using HGR.out.size, fun i hi hne => (Below.heap_setCell _ _ _ _ (by intro e; exact hne (by rw [e]))).trans (HGR.out.block i hi hne)⟩
            case measure => simp [intOf]; omega
          · have e : n = gi.length := by omega
            subst e
            have hmeq : m = inputsOf gate ⟨gk, gl, gi⟩ := by
              have := HMT.out
              rw [List.take_of_length_le (by omega), List.take_of_length_le (by simp [inputsOf])] at this
              exact this
            have hilen : (inputsOf gate ⟨gk, gl, gi⟩).length = gi.length := by simp [inputsOf]
            have hib : ∀ x ∈ inputsOf gate ⟨gk, gl, gi⟩, -1000000 ≤ x ∧ x ≤ 1000000 := fun x hx => by
              unfold inputsOf at hx
              obtain ⟨y, hy, rfl⟩ := List.mem_map.1 hx
              obtain ⟨j, hj⟩ := List.getElem?_of_mem hy
              have hyy := HIN.out j y hj
              rw [List.getD_eq_getElem?_getD, List.getElem?_eq_getElem (by have := HGL.out; omega), Option.getD_some]
              exact HGB.out _ (List.getElem_mem _)
            have kg := enc_gate wr (fun k => k ≠ w1.heap.size + 1) (fun k hk => by omega) w.heap.size w1.heap.size s gk gl (.slice A' gi.length c') (wo.heap.size + 1) (inputsOf gate ⟨gk, gl, gi⟩) (HEI.out.mono (fun k hk h => h.1)) HOK.out (by rw [← hmeq]; exact HBM.out) (by omega) hib (by rw [hilen]; exact HAL.out)
            rw [hilen] at kg
            have hgok := ES.gate_ok HOK.out gk gl (inputsOf gate ⟨gk, gl, gi⟩) hib HLIT.out
            have hstep : encGo s gate (⟨gk, gl, gi⟩ :: gs.drop (k + 1)) = if (s.gate gk gl (inputsOf gate ⟨gk, gl, gi⟩)).1.full then none else encGo (s.gate gk gl (inputsOf gate ⟨gk, gl, gi⟩)).1 (gate ++ [(s.gate gk gl (inputsOf gate ⟨gk, gl, gi⟩)).2]) (gs.drop (k + 1)) := rfl
            generalize s.gate gk gl (inputsOf gate ⟨gk, gl, gi⟩) = p at kg hgok hstep
            obtain ⟨s2, x⟩ := p
            simp only at kg hgok hstep
            have KG := Lib.hid kg
            have HGOK := Lib.hid hgok
            have HSTEP := Lib.hid hstep
            have hgbk := KB.out _ _ _ HBG.out.lt HBG.out
            have hcbk := KB.out _ _ _ HBC.out.lt HBC.out
            have htbk := KB.out _ _ _ HBT.out.lt HBT.out
            have HGBK := Lib.hid hgbk
            have HCBK := Lib.hid hcbk
            have HTBK := Lib.hid htbk
            clear kg hgok hstep hmeq hilen hib hgbk hcbk htbk
            go_wp2_with fail
            refine KG.out.mono ?_
            rintro e w3 ⟨rfl, hE3, hF3⟩
            have hg3 := hF3.blk HGBK.out (by omega) (.inl (by decide))
            have hc3 := hF3.blk HCBK.out (by omega) (.inl (by decide))
            have ht3 := hF3.blk HTBK.out (by omega) (.inl (by decide))
            have hbw3 : Below w.heap.size w w3 := hb.trans (((hbe.mono hb.size).trans (below_of_grown HGR.out (by have := HSZ2.out; have := hb.size; omega) (fun k hk => by injection hk with hk; have := hb.size; omega))).trans (hF3.below (by have := hbw.size; omega) (by have := hb.size; omega)))
            have lt3 := hg3.lt
            have cg := hg3.cell k
            have fg := hg3.free k
            rw [intCells_get _ _ (by simp; have := HGL.out; omega)] at cg
            generalize (gate ++ List.replicate (gs.length - k) 0)[k]'(by simp; have := HGL.out; omega) = z0 at cg
            have hE4 := hE3.setInt hg3 (by simp) k (.int .i64 x)
            obtain ⟨_, A4, c4, eblk, _⟩ := id hE4
            have e2 := eblk.cell 2
            simp at e2
            have E4 := Lib.hid hE4
            have G3 := Lib.hid hg3
            have C3 := Lib.hid hc3
            have T3 := Lib.hid ht3
            have t0 := (ht3.far (p := ⟨w1.heap.size + 1, k, none⟩) (by simp; omega) (.int .i64 x)).cell 0
            have t1 := (ht3.far (p := ⟨w1.heap.size + 1, k, none⟩) (by simp; omega) (.int .i64 x)).cell 1
            have tf0 := (ht3.far (p := ⟨w1.heap.size + 1, k, none⟩) (by simp; omega) (.int .i64 x)).free 0
            have tf1 := (ht3.far (p := ⟨w1.heap.size + 1, k, none⟩) (by simp; omega) (.int .i64 x)).free 1
            simp at t0 t1
            clear hE3 hF3 hg3 hc3 ht3 hE4 eblk
            cases hfl : s2.full
            · rw [hfl] at e2
              have hst : encGo ⟨N, [], false⟩ [] gs = encGo s2 (gate ++ [x]) (gs.drop (k + 1)) := by
                rw [HGO.out, HSTEP.out, if_neg (by rw [hfl]; decide)]
              have HST := Lib.hid hst
              have HFL := Lib.hid hfl
              clear hst hfl
              go_wp2
              go_roundw
              case rel =>
                refine ⟨k + 1, s2, gate ++ [x], by omega, by go_num, HST.out, by simp; exact HGL.out, HFL.out, HGOK.out.1, ?_, C3.out.far (by simp; omega) _, T3.out.far (by simp; omega) _, E4.out, ?_, hbw3.setCell (by simp; have := hbw.size; omega) _, by simp [World.setCell]; omega⟩
                · intro y hy
                  rcases List.mem_append.1 hy with h | h
                  · exact HGB.out y h
                  · have : y = x := by simpa using h
                    subst this
                    exact HGOK.out.2
                · have := G3.out.put k (.int .i64 x)
                  rw [intCells_set] at this
                  refine this.cast ?_
                  rw [List.set_append_right _ _ (by have := HGL.out; omega), show k - gate.length = 0 from by have := HGL.out; omega, show gs.length - k = (gs.length - (k + 1)) + 1 from by omega, List.replicate_succ, List.set_cons_zero]
                  simp
              case measure => simp [intOf]; omega
            · rw [hfl] at e2
              have hst : r = EncR.err 2 := by
                rw [HR.out]
                unfold encodeOf
                rw [← HCK.out, if_neg (by simp), HGO.out, HSTEP.out, if_pos hfl]
              have HST := Lib.hid hst
              clear hst hfl
              go_wp2
              refine bodyPost_ret (v := .tuple #[.agg #[.int .i64 0, .slice none 0 0], .slice none 0 0, .int .i64 2]) (by simp [results, Try.results13, go_sem, t0, t1]) rfl ?_
              rw [HST.out]
              exact ⟨⟨_, _, rfl, NILR.out _, NILI.out _⟩, ((hbw3.setCell (by simp; have := hbw.size; omega) _).setCell (by simp) _).setCell (by simp) _⟩
      · have e : k = gs.length := by omega
        subst e
        have hres : r = encFin s gate := by
          rw [HR.out]
          unfold encodeOf
          rw [← HCK.out, if_neg (by simp), HGO.out, List.drop_length, encGo_nil]
        have hgl : gate.length = gs.length := HGL.out
        have hbg : Blk wo (w1.heap.size + 1) 3 (intCells gate) := HBG.out.cast (by rw [Nat.sub_self]; simp)
        have hlast : gate.getLastD 0 = gate[gs.length - 1]'(by omega) := last_at gate gs.length hgl (by omega)
        have cg := hbg.cell (gs.length - 1)
        rw [intCells_get _ _ (by omega), ← hlast] at cg
        unfold encFin at hres
        generalize gate.getLastD 0 = z at cg hres
        have hix : ((gs.length : Int) - 1).toNat = gs.length - 1 := by omega
        have HBG' := Lib.hid hbg
        have HRES := Lib.hid hres
        have HLG := Lib.hid hgl
        have kadd := add_step wo (fun k => k ≠ w1.heap.size + 1) (fun k hk => by omega) w.heap.size w1.heap.size s [z] _ _ rfl rfl HE.out (by simp) (by have := HOK.out.1; omega)
        have KADD := Lib.hid kadd
        have hok2 := ES.add_ok HOK.out [z]
        clear hbg hlast hres hgl kadd
        generalize s.add [z] = s2 at KADD HRES hok2
        have HOK2 := Lib.hid hok2
        clear hok2
        go_wp2_with fail
        refine KADD.out.mono ?_
        rintro e w3 ⟨rfl, hE3, hF3⟩
        have hg3 := hF3.blk HBG'.out (by omega) (.inl (by decide))
        have ht3 := hF3.blk HBT.out (by omega) (.inl (by decide))
        have hbw3 : Below w.heap.size w w3 := hb.trans (hF3.below (by have := hbw.size; omega) hb.size)
        obtain ⟨_, A4, c4, eblk, rows⟩ := id hE3
        have e0 := eblk.cell 0
        have e1 := eblk.cell 1
        have e2 := eblk.cell 2
        simp at e0 e1 e2
        have rV := OwnRows.V rows
        have kth := theory_check s2.n _ s2.L w3 _ (Nat.le_refl _) rV
        obtain ⟨tc, htc⟩ : ∃ tc, tc = thCheck s2.n s2.L := ⟨_, rfl⟩
        rw [← htc] at kth
        have htcc := thCheck_cases s2.n s2.L
        rw [← htc] at htcc
        have t0 := ht3.cell 0
        have t1 := ht3.cell 1
        have tf0 := ht3.free 0
        have tf1 := ht3.free 1
        simp at t0 t1
        have KTH := Lib.hid kth
        have HTC := Lib.hid htc
        have RV := Lib.hid rV
        have ROWS := Lib.hid rows
        have EB := Lib.hid eblk
        have G3 := Lib.hid hg3
        have ltt3 := ht3.lt
        have HT3 := Lib.hid ht3
        clear hE3 hF3 kth htc rV rows eblk hg3 ht3
        cases hfl : s2.full
        · rw [hfl] at e2
          have HFL := Lib.hid hfl
          clear hfl
          rcases htcc with h | h | h | h
          · subst h
            have hst : r = ⟨0, s2.n, s2.L, gate⟩ := by rw [HRES.out, if_neg (by rw [HFL.out, ← HTC.out]; simp)]
            have HST := Lib.hid hst
            clear hst
            go_wp2_with fail
            refine KTH.out.mono ?_
            rintro e w4 ⟨rfl, hb4⟩
            obtain ⟨hc4, hf4⟩ := bcell hb4
            have ltge := EB.out.lt
            have hs4 := hb4.size
            go_wp2
            refine bodyPost_ret (v := .tuple #[.agg #[.int .i64 s2.n, .slice A4 s2.L.length c4], .slice (some ⟨w1.heap.size + 1, 0, none⟩) gs.length gs.length, .int .i64 0]) (by simp [results, Try.results13, go_sem, t0, t1, hc4, ltt3]) rfl ?_
            rw [HST.out]
            have ht4 := HT3.out.keep hb4
            have hrows := ((ROWS.out.below hb4).setCell ht4 (by decide) (by decide) 0 (.int .i64 s2.n)).setCell (ht4.put 0 _) (by decide) (by decide) 1 (.slice A4 s2.L.length c4)
            have hgate := ((G3.out.keep hb4).far (p := ⟨w.heap.size + 1, 0, none⟩) (by simp; omega) (.int .i64 s2.n)).far (p := ⟨w.heap.size + 1, 1, none⟩) (by simp; omega) (.slice A4 s2.L.length c4)
            have hgv := intCells_V hgate (by have := HLG.out; unfold maxLen; omega)
            rw [HLG.out] at hgv
            exact ⟨⟨_, _, rfl, hrows.V, hgv⟩, ((hbw3.trans (hb4.mono hbw3.size)).setCell (by simp) _).setCell (by simp) _⟩
          all_goals
            subst h
            have hst : r = EncR.err 2 := by rw [HRES.out, if_pos (.inr (by rw [← HTC.out]; decide))]
            have HST := Lib.hid hst
            clear hst
            go_wp2_with fail
            refine KTH.out.mono ?_
            rintro e w4 ⟨rfl, hb4⟩
            obtain ⟨hc4, hf4⟩ := bcell hb4
            have hs4 := hb4.size
            go_wp2
            refine bodyPost_ret (v := .tuple #[.agg #[.int .i64 0, .slice none 0 0], .slice none 0 0, .int .i64 2]) (by simp [results, Try.results13, go_sem, t0, t1, hc4, ltt3]) rfl ?_
            rw [HST.out]
            exact ⟨⟨_, _, rfl, NILR.out _, NILI.out _⟩, ((hbw3.trans (hb4.mono hbw3.size)).setCell (by simp) _).setCell (by simp) _⟩
        · rw [hfl] at e2
          have hst : r = EncR.err 2 := by rw [HRES.out, if_pos (.inl hfl)]
          have HST := Lib.hid hst
          clear hst hfl
          go_wp2
          refine bodyPost_ret (v := .tuple #[.agg #[.int .i64 0, .slice none 0 0], .slice none 0 0, .int .i64 2]) (by simp [results, Try.results13, go_sem, t0, t1]) rfl ?_
          rw [HST.out]
          exact ⟨⟨_, _, rfl, NILR.out _, NILI.out _⟩, (hbw3.setCell (by simp) _).setCell (by simp) _⟩
  · have hres : r = EncR.err ck := by
      rw [HR.out]
      unfold encodeOf
      rw [← HCK.out, if_pos h0]
    have HRES := Lib.hid hres
    have hc := checkOf_cases N gs
    rw [← HCK.out] at hc
    clear HCK hres
    rcases hc with hc | hc | hc | hc
    · exact absurd hc h0
    all_goals
      subst hc
      clear h0
      go_enter Try.func13, Try.ntmps13
      go_wp2_with fail
      refine (K1.out _ (by go_grown)).mono ?_
      rintro e w1 ⟨rfl, hb1⟩
      have blkt := (Blk.new_ (w := w.alloc (.cells #[.int .i64 N, .slice A gs.length c] 24)) (g := w.heap.size + 1) (t := 29) (cs := #[.int .i64 0, .slice none 0 0]) (by simp)).keep hb1
      have hbw : Below w.heap.size w w1 := Below.trans (by go_grown) (hb1.mono (by simp; omega))
      have t0 := blkt.cell 0
      have t1 := blkt.cell 1
      have tf0 := blkt.free 0
      have tf1 := blkt.free 1
      simp at t0 t1
      go_wp2
      refine bodyPost_ret (v := .tuple #[.agg #[.int .i64 0, .slice none 0 0], .slice none 0 0, .int .i64 _]) (by simp [results, Try.results13, go_sem, t0, t1]; rfl) rfl ?_
      rw [HRES.out]
      exact ⟨⟨_, _, rfl, NILR.out _, NILI.out _⟩, (hbw.setCell (by simp) _).setCell (by simp) _⟩
end Go.Proofs.Ytlifakbdgmdafaa
