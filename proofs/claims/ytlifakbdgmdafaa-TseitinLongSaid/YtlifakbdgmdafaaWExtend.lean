/-
  What tseitin.Extend returns.
-/
import Derived.Test.YtlifakbdgmdafaaExtend
namespace Go.Proofs.Ytlifakbdgmdafaa
open Go Go.RowKit

theorem encGo_len (s : ES) (gate : List Int) (gs : List Gate) (s' : ES) (gate' : List Int) (h : encGo s gate gs = some (s', gate')) : gate'.length = gate.length + gs.length := by
  induction gs generalizing s gate with
  | nil => simp [encGo] at h; simp [h]
  | cons g r ih =>
    rw [encGo] at h
    split at h
    · cases h
    · have := ih _ _ h
      simp at this ⊢; omega
theorem encGo_gates (n : Int) (gs : List Gate) (hn : 0 ≤ n ∧ n ≤ 128) (k0 : Nat) (hgood : ∀ (k : Nat) (g : Gate), gs[k]? = some g → goodGate n (k0 + k : Nat) g = true) (s : ES) (hs : s.ok) (gate : List Int) (hl : gate.length = k0) (hb : ∀ x ∈ gate, -1000000 ≤ x ∧ x ≤ 1000000)
    (s' : ES) (gate' : List Int) (h : encGo s gate gs = some (s', gate')) : s'.ok ∧ ∀ x ∈ gate', -1000000 ≤ x ∧ x ≤ 1000000 := by
  induction gs generalizing s gate k0 with
  | nil => simp [encGo] at h; rw [← h.1, ← h.2]; exact ⟨hs, hb⟩
  | cons g r ih =>
    rw [encGo] at h
    split at h
    · cases h
    · have hg := hgood 0 g rfl
      have hin : ∀ x ∈ inputsOf gate g, -1000000 ≤ x ∧ x ≤ 1000000 := fun x hx => by
        unfold inputsOf at hx
        obtain ⟨y, hy, rfl⟩ := List.mem_map.1 hx
        obtain ⟨j, hj⟩ := List.getElem?_of_mem hy
        have hyy := good_in' hg j y hj
        rw [List.getD_eq_getElem?_getD, List.getElem?_eq_getElem (by omega), Option.getD_some]
        exact hb _ (List.getElem_mem _)
      have hlit : -1000000 ≤ g.lit ∧ g.lit ≤ 1000000 := by
        have h3 := hg
        unfold goodGate litGood at h3
        simp only [Bool.and_eq_true] at h3
        have h3 := h3.1.2
        split at h3
        · have := (litOk_iff _ _ hn.1 hn.2).1 h3; omega
        · simp at h3; omega
      have hgo := ES.gate_ok hs g.kind g.lit (inputsOf gate g) hin hlit
      refine ih (k0 + 1) (fun k g' hk => ?_) _ hgo.1 _ (by simp; exact hl) (fun x hx => ?_) h
      · have := hgood (k + 1) g' (by simpa using hk)
        rwa [show k0 + 1 + k = k0 + (k + 1) from by omega]
      · rcases List.mem_append.1 hx with h1 | h1
        · exact hb x h1
        · have : x = (s.gate g.kind g.lit (inputsOf gate g)).2 := by simpa using h1
          rw [this]; exact hgo.2
theorem encode_ok {n : Int} {gs : List Gate} (h : (encodeOf n gs).e = 0) : checkOf n gs = 0 ∧ (encodeOf n gs).gate.length = gs.length ∧ (∀ x ∈ (encodeOf n gs).gate, -1000000 ≤ x ∧ x ≤ 1000000) ∧ 0 ≤ (encodeOf n gs).n ∧ (encodeOf n gs).n ≤ 128 := by
  unfold encodeOf at h ⊢
  by_cases hc : checkOf n gs = 0
  · rw [if_neg (by simp [hc])] at h ⊢
    have hb := check_bounds hc
    cases he : encGo ⟨n, [], false⟩ [] gs with
    | none => rw [he] at h; simp [EncR.err] at h
    | some p =>
      obtain ⟨s, gate⟩ := p
      rw [he] at h
      simp only at h ⊢
      have hl := encGo_len _ _ _ _ _ he
      have hg := encGo_gates n gs ⟨hb.1, hb.2.1⟩ 0 (fun k g hk => by
        have hlt := (List.getElem?_eq_some_iff.1 hk).1
        have := check_gate hc k hlt
        rw [List.getElem?_eq_getElem hlt] at hk
        injection hk with hk
        rw [← hk, Nat.zero_add]; exact this) ⟨n, [], false⟩ ⟨by simp, hb.1, hb.2.1⟩ [] rfl (by simp) s gate he
      unfold encFin at h ⊢
      split at h
      · simp [EncR.err] at h
      · rename_i hx
        rw [if_neg hx]
        have ha := ES.add_ok hg.1 [gate.getLastD 0]
        exact ⟨hc, by simpa using hl, hg.2, ha.2.1, ha.2.2⟩
  · rw [if_pos hc] at h
    simp [EncR.err] at h
    exact absurd h hc
theorem encode_cases (n : Int) (gs : List Gate) : (encodeOf n gs).e = 0 ∨ (encodeOf n gs).e = 1 ∨ (encodeOf n gs).e = 2 ∨ (encodeOf n gs).e = 6 := by
  unfold encodeOf
  split
  · exact checkOf_cases n gs
  · split
    · simp [EncR.err]
    · unfold encFin
      split <;> simp [EncR.err]
theorem GatesV.take {w : World} {B : Nat} {A : Option Addr} {c k : Nat} {gs : List Gate} (h : GatesV w B (.slice A gs.length c) gs) (hk : k ≤ gs.length) : GatesV w B (.slice A k c) (gs.take k) := by
  obtain ⟨A', c', hv, h1, h2, h3⟩ := h
  injection hv with e1 e2 e3
  subst e1 e3
  have hl : (gs.take k).length = k := by rw [List.length_take]; omega
  refine ⟨A, c, by rw [hl], by omega, h2, fun hp => ?_⟩
  obtain ⟨b, o, hB, hA, hc⟩ := h3 (by omega)
  refine ⟨b, o, hB, hA, fun i x hx => hc i x ?_⟩
  rw [List.getElem?_take] at hx
  split at hx
  · exact hx
  · cases hx
theorem sizeOf_take (gs : List Gate) (k : Nat) : sizeOf (gs.take k) ≤ sizeOf gs := by
  unfold sizeOf sizeTo
  rw [List.take_length, List.take_length]
  conv => rhs; rw [← List.take_append_drop k gs]
  rw [List.map_append, List.sum_append_nat]; omega
theorem xorExt_next (gate : List Int) (r : List Int) (st : Int × VS) (odd : Bool) : (xorExt gate st odd r).1 = st.1 + r.length := by
  induction r generalizing st odd with
  | nil => simp [xorExt]
  | cons j r ih => rw [xorExt, ih]; simp [setV]; omega
theorem extStep_next (n : Int) (gs : List Gate) (gate : List Int) (k : Nat) (g : Gate) (st : Int × VS) : st.1 ≤ (extStep n gs gate k g st).1 ∧ (extStep n gs gate k g st).1 ≤ st.1 + 1 + g.inp.length := by
  unfold extStep
  split
  · rw [xorExt_next]; simp; omega
  · split
    · simp; omega
    · simp [setV]; omega

theorem Only.cell0 {S : Nat → Prop} {w w' : World} {p : Addr} {v : Value} (h : Only S w w') (hc : w.cell? p = some v) (hp : ¬ S p.block) : w'.cell? p = some v :=
  (World.cell?_of_block (w := w) (w' := w') (a := p) (h.block p.block (World.block_lt_of_cell? w p hc) hp)).trans hc

set_option maxRecDepth 100000 in
set_option maxHeartbeats 25600000 in
theorem tseitin_extend (N : Int) (V : Value) (gs : List Gate) (a : VS) (w : World) (B : Nat) (hB : B ≤ w.heap.size) (hg : GatesV w B V gs) (hs : sizeOf gs ≤ 4611686018427387904) (hN : -9223372036854775808 ≤ N) (hN' : N ≤ 9223372036854775807) :
    Calls Try.prog 17 #[.agg #[.int .i64 N, V], (.agg #[.int .u64 ((a).a.toNat : Int), .int .u64 ((a).b.toNat : Int)])] w fun e w' => e = .returned (.tuple #[(.agg #[.int .u64 (((extendOf N gs a).1).a.toNat : Int), .int .u64 (((extendOf N gs a).1).b.toNat : Int)]), .bool (extendOf N gs a).2]) ∧ Below w.heap.size w w' := by
  obtain ⟨A, c, rfl, hlc, hcm, _⟩ := id hg
  unfold maxLen at hcm
  obtain ⟨r, hr⟩ : ∃ r, r = extendOf N gs a := ⟨_, rfl⟩
  rw [← hr]
  have HR := Lib.hid hr
  clear hr
  have k1 : ∀ W, Below w.heap.size w W → Calls Try.prog 13 #[.agg #[.int .i64 N, .slice A gs.length c]] W fun e w' => (∃ LV GV, e = .returned (.tuple #[.agg #[.int .i64 (encodeOf N gs).n, LV], GV, .int .i64 (encodeOf N gs).e]) ∧ RowsV w' w'.heap.size LV (encodeOf N gs).L ∧ IntsV w' w'.heap.size GV (encodeOf N gs).gate) ∧ Below W.heap.size W w' :=
    fun W hW => tseitin_encode N _ gs W B (Nat.le_trans hB hW.size) (hg.below (hW.mono hB)) hs
  have k2 : ∀ W, Below w.heap.size w W → Calls Try.prog 26 #[.agg #[.int .i64 N, .slice A gs.length c], (.agg #[.int .u64 ((a).a.toNat : Int), .int .u64 ((a).b.toNat : Int)])] W fun e w' => e = .returned (.bool (evalOf N gs a)) ∧ Below W.heap.size W w' :=
    fun W hW => circ_eval N _ gs a.a a.b W B (Nat.le_trans hB hW.size) (hg.below (hW.mono hB)) hs hN hN'
  have hcs := encode_cases N gs
  have hok := fun h => encode_ok (n := N) (gs := gs) h
  unfold extendOf at HR
  generalize encodeOf N gs = enc at k1 hcs hok HR
  obtain ⟨ee, en, eL, eg⟩ := enc
  simp only at k1 hcs hok HR
  obtain ⟨ev, hev⟩ : ∃ ev, ev = evalOf N gs a := ⟨_, rfl⟩
  rw [← hev] at k2 HR
  have K1 := Lib.hid k1
  have K2 := Lib.hid k2
  have HOK := Lib.hid hok
  clear k1 k2 hok hev
  have fin0 : ee ≠ 0 ∨ ev = false → r = (VS.empty, false) := fun h => by rw [HR.out, if_pos h]
  have FIN0 := Lib.hid fin0
  clear fin0
  rcases hcs with h | h | h | h
  · subst h
    go_enter Try.func17, Try.ntmps17
    go_wp2_with fail
    refine (K1.out _ (by go_grown)).mono ?_
    rintro e w1 ⟨⟨LV, GV, rfl, hLV, hGV⟩, hb1⟩
    obtain ⟨A2, c2, rfl, hl2, hm2, _⟩ := id hLV
    obtain ⟨A3, c3, rfl, hl3, hm3, _⟩ := id hGV
    have hbc := ((((Blk.new w 24 #[.int .i64 N, .slice A gs.length c]).alloc (.cells #[.int .u64 (a.a.toNat : Int), .int .u64 (a.b.toNat : Int)] 38)).alloc (.cells #[.int .u64 0, .int .u64 0] 38)).keep hb1)
    have hba := (((Blk.new_ (w := w.alloc (.cells #[.int .i64 N, .slice A gs.length c] 24)) (g := w.heap.size + 1) (t := 38) (cs := #[.int .u64 (a.a.toNat : Int), .int .u64 (a.b.toNat : Int)]) (by simp)).alloc (.cells #[.int .u64 0, .int .u64 0] 38)).keep hb1)
    have hbr := ((Blk.new_ (w := (w.alloc (.cells #[.int .i64 N, .slice A gs.length c] 24)).alloc (.cells #[.int .u64 (a.a.toNat : Int), .int .u64 (a.b.toNat : Int)] 38)) (g := w.heap.size + 2) (t := 38) (cs := #[.int .u64 0, .int .u64 0]) (by simp)).keep hb1)
    have hbw : Below w.heap.size w w1 := Below.trans (by go_grown) (hb1.mono (by simp; omega))
    clear hb1
    have c0 := hbc.cell 0
    have c1 := hbc.cell 1
    have a0 := hba.cell 0
    have a1 := hba.cell 1
    simp at c0 c1 a0 a1
    have ltr := hbr.lt
    have ltc := hbc.lt
    have lta := hba.lt
    go_wp2_with fail
    refine (K2.out (w1.alloc (.cells #[.int .i64 en, .slice A2 eL.length c2] 29)) (hbw.alloc hbw.size _)).mono ?_
    rintro e w2 ⟨rfl, hb2⟩
    have hb2' : Below w1.heap.size w1 w2 := Below.trans (by go_grown) (hb2.mono (by simp))
    have hbt := (Blk.new w1 29 #[.int .i64 en, .slice A2 eL.length c2]).keep hb2
    have hc2 := hbc.keep hb2'
    have ha2 := hba.keep hb2'
    have hr2 := hbr.keep hb2'
    have hG2 := hGV.below hb2'
    have hbw2 := hbw.trans (hb2'.mono hbw.size)
    have hgelt : w1.heap.size ≤ w2.heap.size := hb2'.size
    clear hb2 hb2' hbc hba hbr c0 c1 a0 a1 hLV hGV
    have c0 := hc2.cell 0
    have c1 := hc2.cell 1
    have r0 := hr2.cell 0
    have r1 := hr2.cell 1
    have rf0 := hr2.free 0
    have rf1 := hr2.free 1
    simp at c0 c1 r0 r1
    cases ev
    · have hr : r = (VS.empty, false) := FIN0.out (.inr rfl)
      subst hr
      go_wp2
      refine bodyPost_ret (v := .tuple #[.agg #[.int .u64 0, .int .u64 0], .bool false]) (by simp [results, Try.results17, go_sem, r0, r1]) rfl ?_
      exact ⟨rfl, (hbw2.setCell (by simp <;> omega) _).setCell (by simp <;> omega) _⟩
    · obtain ⟨hck, hglen, hgb, hen0, hen1⟩ := HOK.out (by simp)
      have hbd := check_bounds hck
      obtain ⟨hN0, hN1, hpos, hlen, hsz⟩ := hbd
      have HR' := Lib.hid (show r = ((extGo N gs eg 0 gs (N, a)).2.cut (VS.all en), true) by rw [HR.out, if_neg (by simp)])
      have HGB := Lib.hid hgb
      have HCK := Lib.hid hck
      have HGLEN := Lib.hid hglen
      clear HR hgb hck hglen K1 K2 HOK FIN0
      have HC2 := Lib.hid hc2
      have HA2 := Lib.hid ha2
      have HR2 := Lib.hid hr2
      have HBT := Lib.hid hbt
      have ltr2 := hr2.lt
      have ltt2 := hbt.lt
      clear hc2 ha2 hr2 hbt r0 r1 rf0 rf1
      obtain ⟨A3', c3', hv3, _, _, h3⟩ := id hG2
      injection hv3 with q1 _ q2
      subst q1 q2
      obtain ⟨b3, o3, hb3, rfl, hcells⟩ := h3 (by have := HGLEN.out; omega)
      have hne3 : b3 ≠ w.heap.size + 1 := by
        intro e
        have h5 := hcells 0 (eg[0]'(by have := HGLEN.out; omega)) (List.getElem?_eq_getElem _)
        have h6 := HA2.out.cell (o3 + 0 * 1)
        unfold IntAt at h5
        rw [e] at h5
        rw [h5] at h6
        rcases o3 with _ | _ | o3 <;> simp at h6
      have hbase : Only (fun k => k = w2.heap.size ∨ k = w.heap.size + 1) w2 (w2.alloc (.cells #[.int .i64 N] 3)) := Only.of_below (by go_grown)
      have fr : ∀ W, Only (fun k => k = w2.heap.size ∨ k = w.heap.size + 1) w2 W → Below w.heap.size w W ∧ Blk W w.heap.size 24 #[.int .i64 N, .slice A gs.length c] ∧ Blk W (w.heap.size + 2) 38 #[.int .u64 0, .int .u64 0] ∧
          Blk W w1.heap.size 29 #[.int .i64 en, .slice A2 eL.length c2] ∧ (∀ (i : Nat) (x : Int), eg[i]? = some x → W.cell? ⟨b3, o3 + i, none⟩ = some (.int .i64 x)) ∧ w2.heap.size ≤ W.heap.size := by
        intro W hW
        refine ⟨hbw2.trans (hW.below hbw2.size (by intro k hk; have := hbw2.size; omega)), hW.blk HC2.out (by omega), hW.blk HR2.out (by omega), hW.blk HBT.out (by omega), fun i x hx => ?_, hW.size⟩
        rw [World.cell?_of_block (w := w2) (w' := W) (a := ⟨b3, o3 + i, none⟩) (hW.block b3 (by omega) (by omega))]
        have := hcells i x hx
        rw [Nat.mul_one] at this
        exact this
      have FR := Lib.hid fr
      have BASE := Lib.hid hbase
      have blka := HA2.out.alloc (.cells #[.int .i64 N] 3)
      have blkn := Blk.new w2 3 #[.int .i64 N]
      have BLKA := Lib.hid blka
      have BLKN := Lib.hid blkn
      have CELLS := Lib.hid hcells
      have c0 := HC2.out.cell 0
      have c1 := HC2.out.cell 1
      have a0 := HA2.out.cell 0
      have a1 := HA2.out.cell 1
      simp at c0 c1 a0 a1
      have ltc2 := HC2.out.lt
      have lta2 := HA2.out.lt
      clear fr hbase blka blkn hcells h3 hG2
      go_wp2
      go_loopw [39] (fun i wr => ∃ (k : Nat) (n : Int) (s : VS), k ≤ gs.length ∧ i = .int .i64 k ∧ extGo N gs eg k (gs.drop k) (n, s) = extGo N gs eg 0 gs (N, a) ∧ N ≤ n ∧ n ≤ N + k + sizeTo gs k ∧
          Blk wr w2.heap.size 3 #[.int .i64 n] ∧ Blk wr (w.heap.size + 1) 38 #[.int .u64 (s.a.toNat : Int), .int .u64 (s.b.toNat : Int)] ∧ Only (fun k => k = w2.heap.size ∨ k = w.heap.size + 1) w2 wr ∧ w2.heap.size < wr.heap.size) (fun i _ => gs.length - (intOf i).toNat)
      case atStart =>
        exact ⟨0, N, a, by omega, rfl, rfl, by omega, by omega, BLKN.out, BLKA.out, BASE.out, by simp⟩
      case round =>
        obtain ⟨k, n, s, hk, rfl, hgo, hn0, hn1, hbn, hba, hon, hlt1⟩ := hrel
        obtain ⟨wo, rfl⟩ : ∃ wo : World, wo = wr := ⟨_, rfl⟩
        obtain ⟨hb, hbc, hbr, hbt, hgc, _⟩ := FR.out wo hon
        have HGO := Lib.hid hgo
        have HBN := Lib.hid hbn
        have HBA := Lib.hid hba
        have HON := Lib.hid hon
        have HBC := Lib.hid hbc
        have HBR := Lib.hid hbr
        have HBTT := Lib.hid hbt
        have HGC := Lib.hid hgc
        clear hgo hbn hba hon hbc hbr hbt hgc
        have hss := sizeTo_le gs k
        by_cases hlt : k < gs.length
        · have hgood := check_gate HCK.out k hlt
          obtain ⟨bb, oo, A', c', rfl, hbB, h0, h1, h2, hI, hnc, hcm'⟩ := hg.at_ (hb.mono hB) hlt
          have hbl : bb < wo.heap.size := by have := hb.size; omega
          have hdr : gs.drop k = gs[k] :: gs.drop (k + 1) := List.drop_eq_getElem_cons hlt
          have hsk := sizeTo_succ gs k hlt
          have hss1 := sizeTo_le gs (k + 1)
          have hin := good_in' hgood
          generalize gs[k] = g at h0 h1 h2 hI hnc hdr hin hsk
          obtain ⟨gk, gl, gi⟩ := g
          simp only at h0 h1 h2 hI hnc hin hsk
          rw [hdr] at HGO
          have HIN := Lib.hid hin
          clear hdr hgood hin
          have c0 := HBC.out.cell 0
          have c1 := HBC.out.cell 1
          have a0 := HBA.out.cell 0
          have a1 := HBA.out.cell 1
          simp at c0 c1 a0 a1
          by_cases h6 : gk = 6
          · subst h6
            by_cases hl1 : 1 < gi.length
            · obtain ⟨x0, gt, rfl⟩ : ∃ x0 gt, gi = x0 :: gt := by
                cases gi with
                | nil => simp at hl1
                | cons x r => exact ⟨x, r, rfl⟩
              have hl2 : (x0 :: gt).length = gt.length + 1 := rfl
              rw [hl2] at hl1 h2 hI hnc hsk
              obtain ⟨Ai, ci, hvi, _, _, hi3⟩ := id hI
              injection hvi with q1 q0 q2
              clear q0
              subst q1 q2
              obtain ⟨bi, oi, hbi, rfl, hic⟩ := hi3 (by simp)
              have hicw : ∀ W, Below w.heap.size w W → ∀ (i : Nat) (x : Int), (x0 :: gt)[i]? = some x → W.cell? ⟨bi, oi + i, none⟩ = some (.int .i64 x) := by
                intro W hW i x hx
                have := hic i x hx
                unfold IntAt at this
                rw [Nat.mul_one] at this
                rw [hW.cell (p := ⟨bi, oi + i, none⟩) (by show bi < w.heap.size; omega), ← hb.cell (p := ⟨bi, oi + i, none⟩) (by show bi < w.heap.size; omega)]
                exact this
              have HICW := Lib.hid hicw
              have hst : extStep N gs eg k ⟨6, gl, x0 :: gt⟩ (n, s) = xorExt eg (n, s) (holdsL s (eg.getD x0.toNat 0)) gt := by
                unfold extStep
                rw [if_pos ⟨rfl, by simp; omega⟩]; rfl
              obtain ⟨hx0, hx1⟩ := HIN.out 0 x0 rfl
              obtain ⟨y0, rfl⟩ := Int.eq_ofNat_of_zero_le hx0
              have hy0 : y0 < eg.length := by have := HGLEN.out; omega
              have i0 := HICW.out wo hb 0 _ rfl
              have g0 := HGC.out y0 _ (List.getElem?_eq_getElem hy0)
              have hz0 := HGB.out _ (List.getElem_mem hy0)
              rw [Int.toNat_natCast, List.getD_eq_getElem?_getD, List.getElem?_eq_getElem hy0, Option.getD_some] at hst
              generalize eg[y0] = z0 at g0 hz0 hst
              have hgo2 : extGo N gs eg (k + 1) (gs.drop (k + 1)) (xorExt eg (n, s) (holdsL s z0) gt) = extGo N gs eg 0 gs (N, a) := by
                rw [← HGO.out, extGo, hst]
              have HGO2 := Lib.hid hgo2
              simp only [Nat.add_zero] at i0
              have hbi2 : bi < wo.heap.size := by have := hb.size; omega
              have hb32 : b3 < wo.heap.size := by omega
              have HIC := Lib.hid hic
              clear hst hgo2 hicw hi3 hic hI
              have gb2 := HBA.out.alloc (.cells #[.int .i64 6, .int .i64 gl, .slice (some ⟨bi, oi, none⟩) (gt.length + 1) c'] 44)
              have kh := ext_holds _ (w.heap.size + 1) s z0 gb2 hz0.1 hz0.2
              have KH := Lib.hid kh
              have gbn := HBN.out.alloc (.cells #[.int .i64 6, .int .i64 gl, .slice (some ⟨bi, oi, none⟩) (gt.length + 1) c'] 44)
              have gg := Blk.new wo 44 #[.int .i64 6, .int .i64 gl, .slice (some ⟨bi, oi, none⟩) (gt.length + 1) c']
              have gon := HON.out.trans (Only.of_below (show Below wo.heap.size wo (wo.alloc (.cells #[.int .i64 6, .int .i64 gl, .slice (some ⟨bi, oi, none⟩) (gt.length + 1) c'] 44)) by go_grown))
              have GBA := Lib.hid gb2
              have GBN := Lib.hid gbn
              have GGG := Lib.hid gg
              have GON := Lib.hid gon
              clear gb2 kh gbn gg gon
              go_wp2_with fail
              refine KH.out.mono ?_
              rintro e w5 ⟨rfl, hb5⟩
              have gb2 := GBA.out.keep hb5
              have gbn := GBN.out.keep hb5
              have gg := GGG.out.keep hb5
              have gon := GON.out.trans (Only.of_below hb5)
              have gc2 := gg.cell 2
              simp at gc2
              have GBA := Lib.hid gb2
              have GBN := Lib.hid gbn
              have GON := Lib.hid gon
              have hlt5 := gbn.lt
              have hqa : (1 : Int) ≤ ((gt.length + 1 : Nat) : Int) := by omega
              have hqb : ((gt.length + 1 : Nat) : Int) ≤ (c' : Int) := by omega
              clear gb2 gbn gg gon KH hb5
              go_wp2
              generalize holdsL s z0 = od0 at HGO2 ⊢
              go_loopw [66, 14] (fun j o wi => ∃ (m : Nat) (t : VS) (od : Bool), m ≤ gt.length ∧ j = .int .i64 m ∧ o = .bool od ∧ extGo N gs eg (k + 1) (gs.drop (k + 1)) (xorExt eg (n + m, t) od (gt.drop m)) = extGo N gs eg 0 gs (N, a) ∧
                  Blk wi w2.heap.size 3 #[.int .i64 (n + m)] ∧ Blk wi (w.heap.size + 1) 38 #[.int .u64 (t.a.toNat : Int), .int .u64 (t.b.toNat : Int)] ∧ Only (fun k => k = w2.heap.size ∨ k = w.heap.size + 1) w2 wi ∧ w2.heap.size < wi.heap.size) (fun j _ _ => gt.length - (intOf j).toNat)
              case atStart =>
                exact ⟨0, s, od0, by omega, rfl, rfl, by simpa using HGO2.out, by simpa using GBN.out, GBA.out, GON.out, hlt5⟩
              case round =>
                obtain ⟨m, t, od, hm, rfl, rfl, hgo, hbn, hba, hon, hlt6⟩ := hrel
                obtain ⟨hb6, _, _, _, hgc, _⟩ := FR.out wr hon
                have HGO3 := Lib.hid hgo
                have GBN6 := Lib.hid hbn
                have GBA6 := Lib.hid hba
                have GON6 := Lib.hid hon
                have HGC6 := Lib.hid hgc
                clear hgo hbn hba hon hgc
                by_cases hltm : m < gt.length
                · have hdm : gt.drop m = gt[m] :: gt.drop (m + 1) := List.drop_eq_getElem_cons hltm
                  have hxm := HIN.out (m + 1) gt[m] (by rw [List.getElem?_cons_succ]; exact List.getElem?_eq_getElem hltm)
                  have im := HICW.out wr hb6 (m + 1) gt[m] (by rw [List.getElem?_cons_succ]; exact List.getElem?_eq_getElem hltm)
                  rw [hdm] at HGO3
                  generalize gt[m] = x at hxm im HGO3
                  obtain ⟨hxm0, hxm1⟩ := hxm
                  obtain ⟨y, rfl⟩ := Int.eq_ofNat_of_zero_le hxm0
                  have hy : y < eg.length := by have := HGLEN.out; omega
                  have gm := HGC6.out y _ (List.getElem?_eq_getElem hy)
                  have hzm := HGB.out _ (List.getElem_mem hy)
                  have hgo4 : extGo N gs eg (k + 1) (gs.drop (k + 1)) (xorExt eg (setV (n + m, t) (od != holdsL t (eg[y]'hy))) (od != holdsL t (eg[y]'hy)) (gt.drop (m + 1))) = extGo N gs eg 0 gs (N, a) := by
                    rw [← HGO3.out, xorExt, Int.toNat_natCast, List.getD_eq_getElem?_getD, List.getElem?_eq_getElem hy, Option.getD_some]
                  generalize eg[y] = z at gm hzm hgo4
                  have im2 : wr.cell? ⟨bi, oi + 1 + m, none⟩ = some (.int .i64 y) := by
                    rw [show oi + 1 + m = oi + (m + 1) from by omega]; exact im
                  have kh := ext_holds wr (w.heap.size + 1) t z GBA6.out hzm.1 hzm.2
                  generalize holdsL t z = hh at kh hgo4
                  have KH := Lib.hid kh
                  have HGO4 := Lib.hid hgo4
                  clear kh hgo4 im hdm
                  go_wp2_with fail
                  refine KH.out.mono ?_
                  rintro e w7 ⟨rfl, hb7⟩
                  have GBN7 := Lib.hid (GBN6.out.keep hb7)
                  have GBA7 := Lib.hid (GBA6.out.keep hb7)
                  have GON7 := Lib.hid (GON6.out.trans (Only.of_below hb7))
                  have ks := fun b => ext_set w7 w2.heap.size (w.heap.size + 1) (n + m) t b GBN7.out GBA7.out (by omega) (by omega)
                  have KS := Lib.hid ks
                  clear ks hb7
                  go_wp2_with fail
                  refine (KS.out (od != hh)).mono ?_
                  rintro e w8 ⟨rfl, hn8, ha8, ho8⟩
                  have GBN8 := Lib.hid hn8
                  have GBA8 := Lib.hid ha8
                  have GON8 := Lib.hid (GON7.out.trans ho8)
                  have hlt8 := hn8.lt
                  clear hn8 ha8 ho8
                  have hcst : n + ((m + 1 : Nat) : Int) = (setV (n + m, t) (od != hh)).1 := by simp [setV]; omega
                  have HCST := Lib.hid hcst
                  clear hcst
                  go_wp2
                  go_roundw
                  case rel => exact ⟨m + 1, (setV (n + m, t) (od != hh)).2, od != hh, by omega, by go_num, rfl, by rw [HCST.out]; exact HGO4.out, by rw [HCST.out]; exact GBN8.out, GBA8.out, GON8.out, hlt8⟩
                  case measure => simp [intOf]; omega
                · have e : m = gt.length := by omega
                  subst e
                  have hgo5 : extGo N gs eg (k + 1) (gs.drop (k + 1)) (n + gt.length, t) = extGo N gs eg 0 gs (N, a) := by
                    rw [← HGO3.out, List.drop_length, xorExt]
                  have HGO5 := Lib.hid hgo5
                  clear hgo5
                  go_wp2
                  go_roundw
                  case rel => exact ⟨k + 1, n + gt.length, t, by omega, by go_num, HGO5.out, by omega, by omega, GBN6.out, GBA6.out, GON6.out, hlt6⟩
                  case measure => simp [intOf]; omega
            · have hst : extStep N gs eg k ⟨6, gl, gi⟩ (n, s) = setV (n, s) (evalOf N (gs.take (k + 1)) (s.cut (VS.all N))) := by
                unfold extStep
                rw [if_neg (by simp; omega), if_neg (by simp)]
              have hgo2 : extGo N gs eg (k + 1) (gs.drop (k + 1)) (setV (n, s) (evalOf N (gs.take (k + 1)) (s.cut (VS.all N)))) = extGo N gs eg 0 gs (N, a) := by
                rw [← HGO.out, extGo, hst]
              have HGO2 := Lib.hid hgo2
              have htl : (gs.take (k + 1)).length = k + 1 := by rw [List.length_take]; omega
              have ke : ∀ W, Below w.heap.size w W → Calls Try.prog 26 #[.agg #[.int .i64 N, .slice (some ⟨bb, oo, none⟩) (k + 1) c], (.agg #[.int .u64 (((s.cut (VS.all N))).a.toNat : Int), .int .u64 (((s.cut (VS.all N))).b.toNat : Int)])] W fun e w' => e = .returned (.bool (evalOf N (gs.take (k + 1)) (s.cut (VS.all N)))) ∧ Below W.heap.size W w' :=
                fun W hW => circ_eval N _ (gs.take (k + 1)) (s.cut (VS.all N)).a (s.cut (VS.all N)).b W B (Nat.le_trans hB hW.size) ((GatesV.take hg (by omega)).below (hW.mono hB)) (Nat.le_trans (sizeOf_take _ _) hs) hN hN'
              have KE := Lib.hid ke
              clear ke hst hgo2
              have hnx : N ≤ (setV (n, s) (evalOf N (gs.take (k + 1)) (s.cut (VS.all N)))).1 ∧ (setV (n, s) (evalOf N (gs.take (k + 1)) (s.cut (VS.all N)))).1 = n + 1 := by simp [setV]; omega
              generalize evalOf N (gs.take (k + 1)) (s.cut (VS.all N)) = eb at KE HGO2 hnx
              have gb1 := HBN.out.alloc (.cells #[.int .i64 6, .int .i64 gl, .slice A' gi.length c'] 44)
              have gb2 := HBA.out.alloc (.cells #[.int .i64 6, .int .i64 gl, .slice A' gi.length c'] 44)
              have gb3 := HBC.out.alloc (.cells #[.int .i64 6, .int .i64 gl, .slice A' gi.length c'] 44)
              have gb4 := HON.out.trans (Only.of_below (show Below wo.heap.size wo (wo.alloc (.cells #[.int .i64 6, .int .i64 gl, .slice A' gi.length c'] 44)) by go_grown))
              have gb5 : Below w.heap.size w (wo.alloc (.cells #[.int .i64 6, .int .i64 gl, .slice A' gi.length c'] 44)) := hb.alloc hb.size _
              have HBN1 := Lib.hid gb1
              have HBA1 := Lib.hid gb2
              have HBC1 := Lib.hid gb3
              have HON1 := Lib.hid gb4
              have HB1 := Lib.hid gb5
              clear gb1 gb2 gb3 gb4 gb5 HBR HBTT
              go_wp2
              generalize wo.alloc (.cells #[.int .i64 6, .int .i64 gl, .slice A' gi.length c'] 44) = w5 at HBN1 HBA1 HBC1 HON1 HB1 ⊢
              have D0 := HBC1.out.later 0 _ rfl
              have D1 := HBC1.out.later 1 _ rfl
              have A0 := HBA1.out.later 0 _ rfl
              have A1 := HBA1.out.later 1 _ rfl
              have KA := Lib.hid (fun W (hW : Below w5.heap.size w5 W) => kept (w1 := w5) (vars_all N W (by omega) (by omega)) hW)
              have KC := Lib.hid (fun W (hW : Below w5.heap.size w5 W) => kept (w1 := w5) (vars_cut s.a s.b (VS.all N).a (VS.all N).b W) hW)
              have KE1 := Lib.hid (fun W (hW : Below w5.heap.size w5 W) => kept (w1 := w5) (KE.out W (HB1.out.trans (hW.mono HB1.out.size))) hW)
              have KS := Lib.hid (fun W (hW : Below w5.heap.size w5 W) => ext_set W w2.heap.size (w.heap.size + 1) n s eb (HBN1.out.keep hW) (HBA1.out.keep hW) (by omega) (by omega))
              have hbB : Below w5.heap.size w5 w5.drew := (Below.refl _ _).drew
              have c0 := D0 _ hbB
              have c1 := D1 _ hbB
              have a0 := A0 _ hbB
              have a1 := A1 _ hbB
              have hwr := IntWalk.i64_in ((k : Int) + 1) (by omega)
              have hq1 : (0 : Int) ≤ (k : Int) + 1 := by omega
              have hq2 : (k : Int) + 1 ≤ (c : Int) := by omega
              have hq3 : ((k : Int) + 1).toNat = k + 1 := by omega
              have hq4 : (k : Int) + 1 ≤ (gs.length : Int) := by omega
              refine wp_region_held_drew (S := fun w' => w'.cell? ⟨w.heap.size, 0, none⟩ = some (.int .i64 N) ∧ w'.cell? ⟨w.heap.size, 1, none⟩ = some (.slice (some ⟨bb, oo, none⟩) gs.length c)) (by kernel_rfl) (by (try dsimp only); go_keep) (fun hHeld => ?_)
              refine wpAnyH_take (i := 0) (v := ?_) rfl (by kernel_rfl) (by kernel_rfl) (by kernel_rfl) (fun _ _ _ h => h) (Or.inl ⟨by rfl, ?_⟩) (by assumption) ?_
              rotate_left
              · (intro w hSw; (try dsimp only at hSw); go_simp; try with_reducible rfl)
              simp only [Act.put]
              refine wpAnyH_take (i := 1) (v := ?_) rfl (by kernel_rfl) (by kernel_rfl) (by kernel_rfl) (fun _ _ _ h => h) (Or.inl ⟨by rfl, ?_⟩) (by assumption) ?_
              rotate_left
              · (intro w hSw; (try dsimp only at hSw); go_simp; try with_reducible rfl)
              simp only [Act.put]
              refine wpAnyH_take (i := 2) (v := ?_) rfl (by kernel_rfl) (by kernel_rfl) (by kernel_rfl) (fun _ _ _ h => h) (Or.inl ⟨by rfl, ?_⟩) (by assumption) ?_
              rotate_left
              · (intro w hSw; (try dsimp only at hSw); go_simp; try with_reducible rfl)
              simp only [Act.put]
              refine wpAnyH_take (i := 3) (v := ?_) rfl (by kernel_rfl) (by kernel_rfl) (by kernel_rfl) (fun _ _ _ h => h) (Or.inl ⟨by rfl, ?_⟩) (by assumption) ?_
              rotate_left
              · (intro w hSw; (try dsimp only at hSw); go_simp; try with_reducible rfl)
              simp only [Act.put]
              refine wpAnyH_take (i := 4) (v := ?_) rfl (by kernel_rfl) (by kernel_rfl) (by kernel_rfl) (fun _ _ _ h => h) (Or.inl ⟨by rfl, ?_⟩) (by assumption) ?_
              rotate_left
              · (intro w hSw; (try dsimp only at hSw); go_simp; try with_reducible rfl)
              simp only [Act.put]
              refine wpAnyH_take (i := 5) (v := ?_) rfl (by kernel_rfl) (by kernel_rfl) (by kernel_rfl) (fun _ _ _ h => h) (Or.inl ⟨by rfl, ?_⟩) (by assumption) ?_
              rotate_left
              · (intro w hSw; (try dsimp only at hSw); go_simp; try with_reducible rfl)
              simp only [Act.put]
              refine wpAnyH_take (i := 6) (v := ?_) rfl (by kernel_rfl) (by kernel_rfl) (by kernel_rfl) (fun _ _ _ h => h) (Or.inl ⟨by rfl, ?_⟩) (by assumption) ?_
              rotate_left
              · (intro w hSw; (try dsimp only at hSw); go_simp; try with_reducible rfl)
              simp only [Act.put]
              refine wpAnyH_take (i := 7) (v := ?_) rfl (by kernel_rfl) (by kernel_rfl) (by kernel_rfl) (fun _ _ _ h => h) (Or.inl ⟨by rfl, ?_⟩) (by assumption) ?_
              rotate_left
              · (intro w hSw; (try dsimp only at hSw); go_simp; try with_reducible rfl)
              simp only [Act.put]
              refine wpAnyH_take (i := 8) (v := ?_) rfl (by kernel_rfl) (by kernel_rfl) (by kernel_rfl) (fun _ _ _ h => h) (Or.inl ⟨by rfl, ?_⟩) (by assumption) ?_
              rotate_left
              · (intro w hSw; (try dsimp only at hSw); go_simp; try with_reducible rfl)
              simp only [Act.put]
              refine wpAnyH_take (i := 10) (v := ?_) rfl (by kernel_rfl) (by kernel_rfl) (by kernel_rfl) (fun _ _ _ h => h) (Or.inl ⟨by rfl, ?_⟩) (by assumption) ?_
              rotate_left
              · (intro w hSw; (try dsimp only at hSw); go_simp; try with_reducible rfl)
              simp only [Act.put]
              refine wpAnyH_take (i := 11) (v := ?_) rfl (by kernel_rfl) (by kernel_rfl) (by kernel_rfl) (fun _ _ _ h => h) (Or.inl ⟨by rfl, ?_⟩) (by assumption) ?_
              rotate_left
              · (intro w hSw; (try dsimp only at hSw); go_simp; try with_reducible rfl)
              simp only [Act.put]
              refine wpAnyH_ready (rs := [9, 12]) (by kernel_rfl) (by simp) ?_
              refine AllReadyH.cons rfl (fun K hK => ?_) (AllReadyH.cons rfl (fun K hK => ?_) AllReadyH.nil)
              · go_simp
                refine hK.out _ _ ⟨D0 _ hbB, D1 _ hbB⟩ (fun hHeld => ?_)
                clear hK K
                refine wpAnyH_ready (rs := [12]) (by kernel_rfl) (by simp) ?_
                refine AllReadyH.cons rfl (fun K hK => ?_) AllReadyH.nil
                go_simp
                go_at_call 41
                refine (KA.out _ hbB).mono ?_
                rintro e w6 ⟨rfl, hB6⟩
                dsimp only
                refine hK.out _ _ ⟨D0 _ hB6, D1 _ hB6⟩ (fun hHeld => ?_)
                clear hK K
                refine wpAnyH_ready (rs := [13]) (by kernel_rfl) (by simp) ?_
                refine AllReadyH.cons rfl (fun K hK => ?_) AllReadyH.nil
                go_simp
                go_at_call 40
                refine (KC.out _ hB6).mono ?_
                rintro e w7 ⟨rfl, hB7⟩
                dsimp only
                refine hK.out _ _ ⟨D0 _ hB7, D1 _ hB7⟩ (fun hHeld => ?_)
                clear hK K
                refine wpAnyH_ready (rs := [14]) (by kernel_rfl) (by simp) ?_
                refine AllReadyH.cons rfl (fun K hK => ?_) AllReadyH.nil
                go_simp
                go_at_call 26
                refine (KE1.out _ hB7).mono ?_
                rintro e w8 ⟨rfl, hB8⟩
                dsimp only
                refine hK.out _ _ ⟨D0 _ hB8, D1 _ hB8⟩ (fun hHeld => ?_)
                clear hK K
                refine wpAnyH_ready (rs := [15]) (by kernel_rfl) (by simp) ?_
                refine AllReadyH.cons rfl (fun K hK => ?_) AllReadyH.nil
                go_simp
                go_at_call 36
                refine (KS.out _ hB8).mono ?_
                rintro e w9 ⟨rfl, hn9, ha9, ho9⟩
                dsimp only
                have HN9 := Lib.hid hn9
                have HA9 := Lib.hid ha9
                have HO9 := Lib.hid (HON1.out.trans ((Only.of_below hB8).trans ho9))
                have hlt9 : w2.heap.size < w9.heap.size := hn9.lt
                refine hK.out _ _ ⟨ho9.cell0 (D0 _ hB8) (by simp <;> omega), ho9.cell0 (D1 _ hB8) (by simp <;> omega)⟩ (fun hHeld => ?_)
                clear hK K hn9 ha9 ho9
                refine wpAnyH_done (by kernel_rfl) ?_ _
                clear hHeld c0 c1 a0 a1 D0 D1 A0 A1 hwr hbB hB6 hB7 hB8 hq1 hq2 hq3 hq4
                go_wp2
                go_roundw
                case rel => exact ⟨k + 1, (setV (n, s) eb).1, (setV (n, s) eb).2, by omega, by go_num, HGO2.out, by omega, by omega, HN9.out, HA9.out, HO9.out, hlt9⟩
                case measure => simp [intOf]; omega
              · go_simp
                go_at_call 41
                refine (KA.out _ hbB).mono ?_
                rintro e w6 ⟨rfl, hB6⟩
                dsimp only
                refine hK.out _ _ ⟨D0 _ hB6, D1 _ hB6⟩ (fun hHeld => ?_)
                clear hK K
                refine wpAnyH_ready (rs := [9]) (by kernel_rfl) (by simp) ?_
                refine AllReadyH.cons rfl (fun K hK => ?_) AllReadyH.nil
                have a0 := A0 _ hB6
                have a1 := A1 _ hB6
                go_simp
                refine hK.out _ _ ⟨D0 _ hB6, D1 _ hB6⟩ (fun hHeld => ?_)
                clear hK K
                refine wpAnyH_ready (rs := [13]) (by kernel_rfl) (by simp) ?_
                refine AllReadyH.cons rfl (fun K hK => ?_) AllReadyH.nil
                go_simp
                go_at_call 40
                refine (KC.out _ hB6).mono ?_
                rintro e w7 ⟨rfl, hB7⟩
                dsimp only
                refine hK.out _ _ ⟨D0 _ hB7, D1 _ hB7⟩ (fun hHeld => ?_)
                clear hK K
                refine wpAnyH_ready (rs := [14]) (by kernel_rfl) (by simp) ?_
                refine AllReadyH.cons rfl (fun K hK => ?_) AllReadyH.nil
                go_simp
                go_at_call 26
                refine (KE1.out _ hB7).mono ?_
                rintro e w8 ⟨rfl, hB8⟩
                dsimp only
                refine hK.out _ _ ⟨D0 _ hB8, D1 _ hB8⟩ (fun hHeld => ?_)
                clear hK K
                refine wpAnyH_ready (rs := [15]) (by kernel_rfl) (by simp) ?_
                refine AllReadyH.cons rfl (fun K hK => ?_) AllReadyH.nil
                go_simp
                go_at_call 36
                refine (KS.out _ hB8).mono ?_
                rintro e w9 ⟨rfl, hn9, ha9, ho9⟩
                dsimp only
                have HN9 := Lib.hid hn9
                have HA9 := Lib.hid ha9
                have HO9 := Lib.hid (HON1.out.trans ((Only.of_below hB8).trans ho9))
                have hlt9 : w2.heap.size < w9.heap.size := hn9.lt
                refine hK.out _ _ ⟨ho9.cell0 (D0 _ hB8) (by simp <;> omega), ho9.cell0 (D1 _ hB8) (by simp <;> omega)⟩ (fun hHeld => ?_)
                clear hK K hn9 ha9 ho9
                refine wpAnyH_done (by kernel_rfl) ?_ _
                clear hHeld c0 c1 a0 a1 D0 D1 A0 A1 hwr hbB hB6 hB7 hB8 hq1 hq2 hq3 hq4
                go_wp2
                go_roundw
                case rel => exact ⟨k + 1, (setV (n, s) eb).1, (setV (n, s) eb).2, by omega, by go_num, HGO2.out, by omega, by omega, HN9.out, HA9.out, HO9.out, hlt9⟩
                case measure => simp [intOf]; omega
          · by_cases h2' : gk = 2
            · subst h2'
              go_wp2
              go_roundw
              case rel =>
                refine ⟨k + 1, n, s, by omega, by go_num, HGO.out, hn0, by omega, HBN.out.alloc _, HBA.out.alloc _, HON.out.trans (Only.of_below (by go_grown)), by simp; omega⟩
              case measure => simp [intOf]; omega
            · have hst : extStep N gs eg k ⟨gk, gl, gi⟩ (n, s) = setV (n, s) (evalOf N (gs.take (k + 1)) (s.cut (VS.all N))) := by
                unfold extStep
                rw [if_neg (by simp [h6]), if_neg (by simp [h2'])]
              have hgo2 : extGo N gs eg (k + 1) (gs.drop (k + 1)) (setV (n, s) (evalOf N (gs.take (k + 1)) (s.cut (VS.all N)))) = extGo N gs eg 0 gs (N, a) := by
                rw [← HGO.out, extGo, hst]
              have HGO2 := Lib.hid hgo2
              have htl : (gs.take (k + 1)).length = k + 1 := by rw [List.length_take]; omega
              have ke : ∀ W, Below w.heap.size w W → Calls Try.prog 26 #[.agg #[.int .i64 N, .slice (some ⟨bb, oo, none⟩) (k + 1) c], (.agg #[.int .u64 (((s.cut (VS.all N))).a.toNat : Int), .int .u64 (((s.cut (VS.all N))).b.toNat : Int)])] W fun e w' => e = .returned (.bool (evalOf N (gs.take (k + 1)) (s.cut (VS.all N)))) ∧ Below W.heap.size W w' :=
                fun W hW => circ_eval N _ (gs.take (k + 1)) (s.cut (VS.all N)).a (s.cut (VS.all N)).b W B (Nat.le_trans hB hW.size) ((GatesV.take hg (by omega)).below (hW.mono hB)) (Nat.le_trans (sizeOf_take _ _) hs) hN hN'
              have KE := Lib.hid ke
              clear ke hst hgo2
              have hnx : N ≤ (setV (n, s) (evalOf N (gs.take (k + 1)) (s.cut (VS.all N)))).1 ∧ (setV (n, s) (evalOf N (gs.take (k + 1)) (s.cut (VS.all N)))).1 = n + 1 := by simp [setV]; omega
              generalize evalOf N (gs.take (k + 1)) (s.cut (VS.all N)) = eb at KE HGO2 hnx
              have gb1 := HBN.out.alloc (.cells #[.int .i64 gk, .int .i64 gl, .slice A' gi.length c'] 44)
              have gb2 := HBA.out.alloc (.cells #[.int .i64 gk, .int .i64 gl, .slice A' gi.length c'] 44)
              have gb3 := HBC.out.alloc (.cells #[.int .i64 gk, .int .i64 gl, .slice A' gi.length c'] 44)
              have gb4 := HON.out.trans (Only.of_below (show Below wo.heap.size wo (wo.alloc (.cells #[.int .i64 gk, .int .i64 gl, .slice A' gi.length c'] 44)) by go_grown))
              have gb5 : Below w.heap.size w (wo.alloc (.cells #[.int .i64 gk, .int .i64 gl, .slice A' gi.length c'] 44)) := hb.alloc hb.size _
              have HBN1 := Lib.hid gb1
              have HBA1 := Lib.hid gb2
              have HBC1 := Lib.hid gb3
              have HON1 := Lib.hid gb4
              have HB1 := Lib.hid gb5
              clear gb1 gb2 gb3 gb4 gb5 HBR HBTT
              go_wp2
              generalize wo.alloc (.cells #[.int .i64 gk, .int .i64 gl, .slice A' gi.length c'] 44) = w5 at HBN1 HBA1 HBC1 HON1 HB1 ⊢
              have D0 := HBC1.out.later 0 _ rfl
              have D1 := HBC1.out.later 1 _ rfl
              have A0 := HBA1.out.later 0 _ rfl
              have A1 := HBA1.out.later 1 _ rfl
              have KA := Lib.hid (fun W (hW : Below w5.heap.size w5 W) => kept (w1 := w5) (vars_all N W (by omega) (by omega)) hW)
              have KC := Lib.hid (fun W (hW : Below w5.heap.size w5 W) => kept (w1 := w5) (vars_cut s.a s.b (VS.all N).a (VS.all N).b W) hW)
              have KE1 := Lib.hid (fun W (hW : Below w5.heap.size w5 W) => kept (w1 := w5) (KE.out W (HB1.out.trans (hW.mono HB1.out.size))) hW)
              have KS := Lib.hid (fun W (hW : Below w5.heap.size w5 W) => ext_set W w2.heap.size (w.heap.size + 1) n s eb (HBN1.out.keep hW) (HBA1.out.keep hW) (by omega) (by omega))
              have hbB : Below w5.heap.size w5 w5.drew := (Below.refl _ _).drew
              have c0 := D0 _ hbB
              have c1 := D1 _ hbB
              have a0 := A0 _ hbB
              have a1 := A1 _ hbB
              have hwr := IntWalk.i64_in ((k : Int) + 1) (by omega)
              have hq1 : (0 : Int) ≤ (k : Int) + 1 := by omega
              have hq2 : (k : Int) + 1 ≤ (c : Int) := by omega
              have hq3 : ((k : Int) + 1).toNat = k + 1 := by omega
              have hq4 : (k : Int) + 1 ≤ (gs.length : Int) := by omega
              refine wp_region_held_drew (S := fun w' => w'.cell? ⟨w.heap.size, 0, none⟩ = some (.int .i64 N) ∧ w'.cell? ⟨w.heap.size, 1, none⟩ = some (.slice (some ⟨bb, oo, none⟩) gs.length c)) (by kernel_rfl) (by (try dsimp only); go_keep) (fun hHeld => ?_)
              refine wpAnyH_take (i := 0) (v := ?_) rfl (by kernel_rfl) (by kernel_rfl) (by kernel_rfl) (fun _ _ _ h => h) (Or.inl ⟨by rfl, ?_⟩) (by assumption) ?_
              rotate_left
              · (intro w hSw; (try dsimp only at hSw); go_simp; try with_reducible rfl)
              simp only [Act.put]
              refine wpAnyH_take (i := 1) (v := ?_) rfl (by kernel_rfl) (by kernel_rfl) (by kernel_rfl) (fun _ _ _ h => h) (Or.inl ⟨by rfl, ?_⟩) (by assumption) ?_
              rotate_left
              · (intro w hSw; (try dsimp only at hSw); go_simp; try with_reducible rfl)
              simp only [Act.put]
              refine wpAnyH_take (i := 2) (v := ?_) rfl (by kernel_rfl) (by kernel_rfl) (by kernel_rfl) (fun _ _ _ h => h) (Or.inl ⟨by rfl, ?_⟩) (by assumption) ?_
              rotate_left
              · (intro w hSw; (try dsimp only at hSw); go_simp; try with_reducible rfl)
              simp only [Act.put]
              refine wpAnyH_take (i := 3) (v := ?_) rfl (by kernel_rfl) (by kernel_rfl) (by kernel_rfl) (fun _ _ _ h => h) (Or.inl ⟨by rfl, ?_⟩) (by assumption) ?_
              rotate_left
              · (intro w hSw; (try dsimp only at hSw); go_simp; try with_reducible rfl)
              simp only [Act.put]
              refine wpAnyH_take (i := 4) (v := ?_) rfl (by kernel_rfl) (by kernel_rfl) (by kernel_rfl) (fun _ _ _ h => h) (Or.inl ⟨by rfl, ?_⟩) (by assumption) ?_
              rotate_left
              · (intro w hSw; (try dsimp only at hSw); go_simp; try with_reducible rfl)
              simp only [Act.put]
              refine wpAnyH_take (i := 5) (v := ?_) rfl (by kernel_rfl) (by kernel_rfl) (by kernel_rfl) (fun _ _ _ h => h) (Or.inl ⟨by rfl, ?_⟩) (by assumption) ?_
              rotate_left
              · (intro w hSw; (try dsimp only at hSw); go_simp; try with_reducible rfl)
              simp only [Act.put]
              refine wpAnyH_take (i := 6) (v := ?_) rfl (by kernel_rfl) (by kernel_rfl) (by kernel_rfl) (fun _ _ _ h => h) (Or.inl ⟨by rfl, ?_⟩) (by assumption) ?_
              rotate_left
              · (intro w hSw; (try dsimp only at hSw); go_simp; try with_reducible rfl)
              simp only [Act.put]
              refine wpAnyH_take (i := 7) (v := ?_) rfl (by kernel_rfl) (by kernel_rfl) (by kernel_rfl) (fun _ _ _ h => h) (Or.inl ⟨by rfl, ?_⟩) (by assumption) ?_
              rotate_left
              · (intro w hSw; (try dsimp only at hSw); go_simp; try with_reducible rfl)
              simp only [Act.put]
              refine wpAnyH_take (i := 8) (v := ?_) rfl (by kernel_rfl) (by kernel_rfl) (by kernel_rfl) (fun _ _ _ h => h) (Or.inl ⟨by rfl, ?_⟩) (by assumption) ?_
              rotate_left
              · (intro w hSw; (try dsimp only at hSw); go_simp; try with_reducible rfl)
              simp only [Act.put]
              refine wpAnyH_take (i := 10) (v := ?_) rfl (by kernel_rfl) (by kernel_rfl) (by kernel_rfl) (fun _ _ _ h => h) (Or.inl ⟨by rfl, ?_⟩) (by assumption) ?_
              rotate_left
              · (intro w hSw; (try dsimp only at hSw); go_simp; try with_reducible rfl)
              simp only [Act.put]
              refine wpAnyH_take (i := 11) (v := ?_) rfl (by kernel_rfl) (by kernel_rfl) (by kernel_rfl) (fun _ _ _ h => h) (Or.inl ⟨by rfl, ?_⟩) (by assumption) ?_
              rotate_left
              · (intro w hSw; (try dsimp only at hSw); go_simp; try with_reducible rfl)
              simp only [Act.put]
              refine wpAnyH_ready (rs := [9, 12]) (by kernel_rfl) (by simp) ?_
              refine AllReadyH.cons rfl (fun K hK => ?_) (AllReadyH.cons rfl (fun K hK => ?_) AllReadyH.nil)
              · go_simp
                refine hK.out _ _ ⟨D0 _ hbB, D1 _ hbB⟩ (fun hHeld => ?_)
                clear hK K
                refine wpAnyH_ready (rs := [12]) (by kernel_rfl) (by simp) ?_
                refine AllReadyH.cons rfl (fun K hK => ?_) AllReadyH.nil
                go_simp
                go_at_call 41
                refine (KA.out _ hbB).mono ?_
                rintro e w6 ⟨rfl, hB6⟩
                dsimp only
                refine hK.out _ _ ⟨D0 _ hB6, D1 _ hB6⟩ (fun hHeld => ?_)
                clear hK K
                refine wpAnyH_ready (rs := [13]) (by kernel_rfl) (by simp) ?_
                refine AllReadyH.cons rfl (fun K hK => ?_) AllReadyH.nil
                go_simp
                go_at_call 40
                refine (KC.out _ hB6).mono ?_
                rintro e w7 ⟨rfl, hB7⟩
                dsimp only
                refine hK.out _ _ ⟨D0 _ hB7, D1 _ hB7⟩ (fun hHeld => ?_)
                clear hK K
                refine wpAnyH_ready (rs := [14]) (by kernel_rfl) (by simp) ?_
                refine AllReadyH.cons rfl (fun K hK => ?_) AllReadyH.nil
                go_simp
                go_at_call 26
                refine (KE1.out _ hB7).mono ?_
                rintro e w8 ⟨rfl, hB8⟩
                dsimp only
                refine hK.out _ _ ⟨D0 _ hB8, D1 _ hB8⟩ (fun hHeld => ?_)
                clear hK K
                refine wpAnyH_ready (rs := [15]) (by kernel_rfl) (by simp) ?_
                refine AllReadyH.cons rfl (fun K hK => ?_) AllReadyH.nil
                go_simp
                go_at_call 36
                refine (KS.out _ hB8).mono ?_
                rintro e w9 ⟨rfl, hn9, ha9, ho9⟩
                dsimp only
                have HN9 := Lib.hid hn9
                have HA9 := Lib.hid ha9
                have HO9 := Lib.hid (HON1.out.trans ((Only.of_below hB8).trans ho9))
                have hlt9 : w2.heap.size < w9.heap.size := hn9.lt
                refine hK.out _ _ ⟨ho9.cell0 (D0 _ hB8) (by simp <;> omega), ho9.cell0 (D1 _ hB8) (by simp <;> omega)⟩ (fun hHeld => ?_)
                clear hK K hn9 ha9 ho9
                refine wpAnyH_done (by kernel_rfl) ?_ _
                clear hHeld c0 c1 a0 a1 D0 D1 A0 A1 hwr hbB hB6 hB7 hB8 hq1 hq2 hq3 hq4
                go_wp2
                go_roundw
                case rel => exact ⟨k + 1, (setV (n, s) eb).1, (setV (n, s) eb).2, by omega, by go_num, HGO2.out, by omega, by omega, HN9.out, HA9.out, HO9.out, hlt9⟩
                case measure => simp [intOf]; omega
              · go_simp
                go_at_call 41
                refine (KA.out _ hbB).mono ?_
                rintro e w6 ⟨rfl, hB6⟩
                dsimp only
                refine hK.out _ _ ⟨D0 _ hB6, D1 _ hB6⟩ (fun hHeld => ?_)
                clear hK K
                refine wpAnyH_ready (rs := [9]) (by kernel_rfl) (by simp) ?_
                refine AllReadyH.cons rfl (fun K hK => ?_) AllReadyH.nil
                have a0 := A0 _ hB6
                have a1 := A1 _ hB6
                go_simp
                refine hK.out _ _ ⟨D0 _ hB6, D1 _ hB6⟩ (fun hHeld => ?_)
                clear hK K
                refine wpAnyH_ready (rs := [13]) (by kernel_rfl) (by simp) ?_
                refine AllReadyH.cons rfl (fun K hK => ?_) AllReadyH.nil
                go_simp
                go_at_call 40
                refine (KC.out _ hB6).mono ?_
                rintro e w7 ⟨rfl, hB7⟩
                dsimp only
                refine hK.out _ _ ⟨D0 _ hB7, D1 _ hB7⟩ (fun hHeld => ?_)
                clear hK K
                refine wpAnyH_ready (rs := [14]) (by kernel_rfl) (by simp) ?_
                refine AllReadyH.cons rfl (fun K hK => ?_) AllReadyH.nil
                go_simp
                go_at_call 26
                refine (KE1.out _ hB7).mono ?_
                rintro e w8 ⟨rfl, hB8⟩
                dsimp only
                refine hK.out _ _ ⟨D0 _ hB8, D1 _ hB8⟩ (fun hHeld => ?_)
                clear hK K
                refine wpAnyH_ready (rs := [15]) (by kernel_rfl) (by simp) ?_
                refine AllReadyH.cons rfl (fun K hK => ?_) AllReadyH.nil
                go_simp
                go_at_call 36
                refine (KS.out _ hB8).mono ?_
                rintro e w9 ⟨rfl, hn9, ha9, ho9⟩
                dsimp only
                have HN9 := Lib.hid hn9
                have HA9 := Lib.hid ha9
                have HO9 := Lib.hid (HON1.out.trans ((Only.of_below hB8).trans ho9))
                have hlt9 : w2.heap.size < w9.heap.size := hn9.lt
                refine hK.out _ _ ⟨ho9.cell0 (D0 _ hB8) (by simp <;> omega), ho9.cell0 (D1 _ hB8) (by simp <;> omega)⟩ (fun hHeld => ?_)
                clear hK K hn9 ha9 ho9
                refine wpAnyH_done (by kernel_rfl) ?_ _
                clear hHeld c0 c1 a0 a1 D0 D1 A0 A1 hwr hbB hB6 hB7 hB8 hq1 hq2 hq3 hq4
                go_wp2
                go_roundw
                case rel => exact ⟨k + 1, (setV (n, s) eb).1, (setV (n, s) eb).2, by omega, by go_num, HGO2.out, by omega, by omega, HN9.out, HA9.out, HO9.out, hlt9⟩
                case measure => simp [intOf]; omega
        · have e : k = gs.length := by omega
          subst e
          have hr2 : r = (s.cut (VS.all en), true) := by
            rw [HR'.out, ← HGO.out, List.drop_length]; rfl
          have HR2' := Lib.hid hr2
          have HBW := Lib.hid hb
          have hsw := hb.size
          have a0 := HBA.out.cell 0
          have a1 := HBA.out.cell 1
          have t0 := HBTT.out.cell 0
          have t1 := HBTT.out.cell 1
          simp at a0 a1 t0 t1
          have r0 := HBR.out.cell 0
          have r1 := HBR.out.cell 1
          have rf0 := HBR.out.free 0
          have rf1 := HBR.out.free 1
          simp at r0 r1
          have ltb := HBA.out.lt
          have ltt := HBTT.out.lt
          have ltrr := HBR.out.lt
          have ka := fun W => vars_all en W (by omega) (by omega)
          have KA := Lib.hid ka
          have kc := fun W => vars_cut s.a s.b (VS.all en).a (VS.all en).b W
          have KC := Lib.hid kc
          clear ka kc hr2 hb
          go_wp2
          have ka2 : ∀ W, Below wo.heap.size wo W → Calls Try.prog 41 #[.int .i64 en] W fun e w' => e = .returned (.agg #[.int .u64 (((VS.all en)).a.toNat : Int), .int .u64 (((VS.all en)).b.toNat : Int)]) ∧ Below wo.heap.size wo w' := fun W hW => kept (w1 := wo) (KA.out _) hW
          have kc2 : ∀ W, Below wo.heap.size wo W → Calls Try.prog 40 #[(.agg #[.int .u64 ((s).a.toNat : Int), .int .u64 ((s).b.toNat : Int)]), (.agg #[.int .u64 (((VS.all en)).a.toNat : Int), .int .u64 (((VS.all en)).b.toNat : Int)])] W fun e w' => e = .returned (.agg #[.int .u64 (((s.cut (VS.all en))).a.toNat : Int), .int .u64 (((s.cut (VS.all en))).b.toNat : Int)]) ∧ Below wo.heap.size wo w' := fun W hW => kept (w1 := wo) (KC.out _) hW
          have KA2 := Lib.hid ka2
          have KC2 := Lib.hid kc2
          have HB0 := Lib.hid (show Below wo.heap.size wo wo.drew from (Below.refl _ _).drew)
          have D0 := HBA.out.later 0 _ rfl
          have D1 := HBA.out.later 1 _ rfl
          have D2 := HBTT.out.later 0 _ rfl
          clear ka2 kc2
          have hb0 := HB0.out
          go_region_with (first | (go_at_call 41; refine (KA2.out _ (by first | exact HB0.out | assumption)).mono ?_; rintro e w' ⟨rfl, hB'⟩; have a0 := D0 _ hB'; have a1 := D1 _ hB'; have t0 := D2 _ hB') | (go_at_call 40; refine (KC2.out _ (by first | assumption | exact HB0.out)).mono ?_; rintro e w' ⟨rfl, hB'⟩; have rf0 := (HBR.out.keep hB').free 0; have rf1 := (HBR.out.keep hB').free 1; have r0 := (HBR.out.keep hB').cell 0; have r1 := (HBR.out.keep hB').cell 1; simp at r0 r1; have ltx := (HBR.out.keep hB').lt; have hp := ((HBR.out.keep hB').put 0 (.int .u64 ((s.cut (VS.all en)).a.toNat : Int))).put 1 (.int .u64 ((s.cut (VS.all en)).b.toNat : Int)); have y0 : ((w'.setCell ⟨w.heap.size + 1 + 1, 0, none⟩ (.int .u64 ((s.cut (VS.all en)).a.toNat : Int))).setCell ⟨w.heap.size + 1 + 1, 1, none⟩ (.int .u64 ((s.cut (VS.all en)).b.toNat : Int))).cell? ⟨w.heap.size + 1 + 1, 0, none⟩ = some (.int .u64 ((s.cut (VS.all en)).a.toNat : Int)) := hp.cell 0; have y1 : ((w'.setCell ⟨w.heap.size + 1 + 1, 0, none⟩ (.int .u64 ((s.cut (VS.all en)).a.toNat : Int))).setCell ⟨w.heap.size + 1 + 1, 1, none⟩ (.int .u64 ((s.cut (VS.all en)).b.toNat : Int))).cell? ⟨w.heap.size + 1 + 1, 1, none⟩ = some (.int .u64 ((s.cut (VS.all en)).b.toNat : Int)) := hp.cell 1; have Y0 := Lib.hid y0; have Y1 := Lib.hid y1; clear hp y0 y1))
          all_goals go_wp2
          all_goals (refine bodyPost_ret (v := .tuple #[(.agg #[.int .u64 (((s.cut (VS.all en))).a.toNat : Int), .int .u64 (((s.cut (VS.all en))).b.toNat : Int)]), .bool true]) (by have y0 := Y0.out; have y1 := Y1.out; simp [results, Try.results17, go_sem, y0, y1]) rfl ?_)
          all_goals (rw [HR2'.out]; exact ⟨rfl, ((HBW.out.trans (hB'.mono hsw)).setCell (by simp <;> omega) _).setCell (by simp <;> omega) _⟩)
  all_goals
    subst h
    have hr : r = (VS.empty, false) := FIN0.out (.inl (by decide))
    subst hr
    clear K2 HOK FIN0 HR
    go_enter Try.func17, Try.ntmps17
    go_wp2_with fail
    refine (K1.out _ (by go_grown)).mono ?_
    rintro e w1 ⟨⟨LV, GV, rfl, hLV, hGV⟩, hb1⟩
    obtain ⟨A2, c2, rfl, hl2, hm2, _⟩ := id hLV
    obtain ⟨A3, c3, rfl, hl3, hm3, _⟩ := id hGV
    have hbr := ((Blk.new_ (w := (w.alloc (.cells #[.int .i64 N, .slice A gs.length c] 24)).alloc (.cells #[.int .u64 (a.a.toNat : Int), .int .u64 (a.b.toNat : Int)] 38)) (g := w.heap.size + 2) (t := 38) (cs := #[.int .u64 0, .int .u64 0]) (by simp)).keep hb1)
    have hbw : Below w.heap.size w w1 := Below.trans (by go_grown) (hb1.mono (by simp; omega))
    have r0 := hbr.cell 0
    have r1 := hbr.cell 1
    have rf0 := hbr.free 0
    have rf1 := hbr.free 1
    simp at r0 r1
    have hp := ((hbr.put 0 (.int .u64 0)).put 1 (.int .u64 0)).alloc (.cells #[.int .i64 en, .slice A2 eL.length c2] 29)
    have y0 : (((w1.setCell ⟨w.heap.size + 1 + 1, 0, none⟩ (.int .u64 0)).setCell ⟨w.heap.size + 1 + 1, 1, none⟩ (.int .u64 0)).alloc (.cells #[.int .i64 en, .slice A2 eL.length c2] 29)).cell? ⟨w.heap.size + 1 + 1, 0, none⟩ = some (.int .u64 0) := hp.cell 0
    have y1 : (((w1.setCell ⟨w.heap.size + 1 + 1, 0, none⟩ (.int .u64 0)).setCell ⟨w.heap.size + 1 + 1, 1, none⟩ (.int .u64 0)).alloc (.cells #[.int .i64 en, .slice A2 eL.length c2] 29)).cell? ⟨w.heap.size + 1 + 1, 1, none⟩ = some (.int .u64 0) := hp.cell 1
    have Y0 := Lib.hid y0
    have Y1 := Lib.hid y1
    clear hp y0 y1
    have ltr := hbr.lt
    clear hb1 hLV hGV hbr
    first | go_wp2 | fail
    refine bodyPost_ret (v := .tuple #[.agg #[.int .u64 0, .int .u64 0], .bool false]) (by have y0 := Y0.out; have y1 := Y1.out; simp [results, Try.results17, go_sem, y0, y1]) rfl ?_
    first | exact ⟨rfl, ((hbw.alloc hbw.size _).setCell (by simp <;> omega) _).setCell (by simp <;> omega) _⟩ | exact ⟨rfl, ((hbw.setCell (by simp <;> omega) _).setCell (by simp <;> omega) _).alloc (by have := hbw.size; simp [World.setCell]; omega) _⟩
end Go.Proofs.Ytlifakbdgmdafaa
