/-
  The reference's Eval of circuits (censusref07).
-/
import Derived.Test.YtlifakbdgmdafaaWRef07
import Derived.Test.YtlifakbdgmdafaaOwn2
namespace Go.Proofs.Ytlifakbdgmdafaa
open Go Go.RowKit

theorem last_toNat (n : Nat) (h : 0 < n) : ((n : Int) - 1).toNat = n - 1 := by omega

set_option maxRecDepth 100000 in
set_option maxHeartbeats 3200000 in
theorem ref07_eval (N : Int) (V : Value) (gs : List Gate) (s : VS) (w : World) (B : Nat) (hB : B ≤ w.heap.size) (hg : GatesV w B V gs) (hs : sizeOf gs ≤ 4611686018427387904) :
    Calls Try.prog 20 #[.agg #[.int .i64 N, V], (.agg #[.int .u64 ((s).a.toNat : Int), .int .u64 ((s).b.toNat : Int)])] w fun e w' => e = .returned (.bool (evalOf N gs s)) ∧ Below w.heap.size w w' := by
  obtain ⟨A, c, rfl, hlc, hcm, _⟩ := id hg
  unfold maxLen at hcm
  obtain ⟨r, hr⟩ : ∃ r, r = evalOf N gs s := ⟨_, rfl⟩
  rw [← hr]
  have k1 : ∀ w1, Below w.heap.size w w1 → Calls Try.prog 34 #[.agg #[.int .i64 N, .slice A gs.length c]] w1 fun e w' => e = .returned (.int .i64 (checkOf N gs)) ∧ Below w1.heap.size w1 w' :=
    fun w1 hb => ref07_check N _ gs w1 B (Nat.le_trans hB hb.size) (hg.below (hb.mono hB)) hs
  have k2 : ∀ w1, Calls Try.prog 22 #[.int .i64 N] w1 fun e w' => e = .returned (.agg #[.int .u64 ((VS.all N).a.toNat : Int), .int .u64 ((VS.all N).b.toNat : Int)]) ∧ Below w1.heap.size w1 w' := fun w1 => ref03_all N w1
  have k3 : ∀ w1, Calls Try.prog 43 #[(.agg #[.int .u64 ((s).a.toNat : Int), .int .u64 ((s).b.toNat : Int)]), (.agg #[.int .u64 ((VS.all N).a.toNat : Int), .int .u64 ((VS.all N).b.toNat : Int)])] w1 fun e w' => e = .returned (.bool (VS.sub s (VS.all N))) ∧ Below w1.heap.size w1 w' := fun w1 => ref03_sub s.a s.b (VS.all N).a (VS.all N).b w1
  obtain ⟨ck, hck⟩ : ∃ ck, ck = checkOf N gs := ⟨_, rfl⟩
  obtain ⟨sb, hsb⟩ : ∃ sb, sb = VS.sub s (VS.all N) := ⟨_, rfl⟩
  have hcc := checkOf_cases N gs
  rw [← hck] at k1 hcc
  rw [← hsb] at k3
  have hr' : r = (decide (ck = 0) && sb && valOf gs s (gs.length - 1)) := by rw [hr, hck, hsb]; rfl
  have hckk := Lib.hid hck
  clear hr hck hsb
  have HR := Lib.hid hr'
  have K1 := Lib.hid k1
  have K2 := Lib.hid k2
  have K3 := Lib.hid k3
  clear hr' k1 k2 k3
  generalize VS.all N = al at K2 K3
  have hck0 : ck = 0 → checkOf N gs = 0 := fun h => by rw [← h, hckk.out]
  have HC0 := Lib.hid hck0
  clear hck0 hckk
  by_cases h0 : ck = 0
  · subst h0
    clear hcc
    go_enter Try.func20, Try.ntmps20
    go_wp2
    have blk0 : Blk ((w.alloc (.cells #[.int .i64 N, .slice A gs.length c] 24)).alloc (.cells #[.int .u64 (s.a.toNat : Int), .int .u64 (s.b.toNat : Int)] 38)) w.heap.size 24 #[.int .i64 N, .slice A gs.length c] := (Blk.new w _ _).alloc _
    have blk1 : Blk ((w.alloc (.cells #[.int .i64 N, .slice A gs.length c] 24)).alloc (.cells #[.int .u64 (s.a.toNat : Int), .int .u64 (s.b.toNat : Int)] 38)) (w.heap.size + 1) 38 #[.int .u64 (s.a.toNat : Int), .int .u64 (s.b.toNat : Int)] := Blk.new_ (by simp)
    have hw : Below w.heap.size w ((w.alloc (.cells #[.int .i64 N, .slice A gs.length c] 24)).alloc (.cells #[.int .u64 (s.a.toNat : Int), .int .u64 (s.b.toNat : Int)] 38)) := by go_grown
    generalize (w.alloc (.cells #[.int .i64 N, .slice A gs.length c] 24)).alloc (.cells #[.int .u64 (s.a.toNat : Int), .int .u64 (s.b.toNat : Int)] 38) = w1 at *
    have C0 := blk0.later 0 _ rfl
    have C1 := blk0.later 1 _ rfl
    have D0 := blk1.later 0 _ rfl
    have D1 := blk1.later 1 _ rfl
    have hb0 : Below w1.heap.size w1 w1.drew := (Below.refl _ _).drew
    have k1' : ∀ W, Below w1.heap.size w1 W → Calls Try.prog 34 #[.agg #[.int .i64 N, .slice A gs.length c]] W fun e w' => e = .returned (.int .i64 0) ∧ Below w1.heap.size w1 w' :=
      fun W hW => kept (K1.out W (hw.trans (hW.mono hw.size))) hW
    have K1' := Lib.hid k1'
    clear k1' K1
    go_region_held3 (fun w' => w'.cell? ⟨w.heap.size, 0, none⟩ = some (.int .i64 N) ∧ w'.cell? ⟨w.heap.size, 1, none⟩ = some (.slice A gs.length c) ∧ w'.cell? ⟨w.heap.size + 1, 0, none⟩ = some (.int .u64 (s.a.toNat : Int)) ∧ w'.cell? ⟨w.heap.size + 1, 1, none⟩ = some (.int .u64 (s.b.toNat : Int)) ∧ Below w1.heap.size w1 w') (go_keep)
      (first | (go_at_call 34; refine (K1'.out _ (by simp [*])).mono ?_; rintro e w' ⟨rfl, hB'⟩) | (go_at_call 22; refine (kept (w1 := w1) (K2.out _) (by simp [*])).mono ?_; rintro e w' ⟨rfl, hB'⟩) | (go_at_call 43; refine (kept (w1 := w1) (K3.out _) (by simp [*])).mono ?_; rintro e w' ⟨rfl, hB'⟩))
    cases sb
    · go_wp2
      go_ret
      exact ⟨ret_bool (by rw [HR.out]; simp), hw.trans (hB'.mono hw.size)⟩
    · simp only [Bool.not_true]
      have b0 := blk0.keep hB'
      have b1 := blk1.keep hB'
      have hB2 := hw.trans (hB'.mono hw.size)
      clear C0 C1 D0 D1 hb0 blk0 blk1
      generalize w' = w2 at *
      have c0 := b0.cell 0
      have c1 := b0.cell 1
      simp at c0 c1
      have l0 := b0.lt
      have l1 := b1.lt
      have B1 := Lib.hid b1
      have B0 := Lib.hid b0
      clear b0 b1
      go_wp2
      go_loopw [5, 6] (fun o i wr => ∃ k : Nat, k ≤ gs.length ∧ i = .int .i64 k ∧ OwnBools wr w2.heap.size o (valsTo gs s k) ∧ Below w2.heap.size w2 wr) (fun _ i _ => gs.length - (intOf i).toNat)
      case atStart => exact ⟨0, by omega, rfl, OwnBools.nil _ _, Below.refl _ _⟩
      case round =>
        obtain ⟨k, hk, rfl, hown, hb⟩ := hrel
        have hlv := valsTo_length gs s k
        have b1 := B1.out.keep hb
        have b0 := B0.out.keep hb
        have c0 := b0.cell 0
        have c1 := b0.cell 1
        simp at c0 c1
        have l2 := b1.lt
        have l3 := b0.lt
        have hb3 := hB2.trans (hb.mono hB2.size)
        clear b1 b0
        have hV := hown.V
        obtain ⟨A9, c9, e9, h91, h92, _⟩ := id hV
        subst e9
        have hown' : wr.ownsRow w2.heap.size 4 1 (.slice A9 k c9) k ((valsTo gs s k).map Value.bool) := by
          have h := hown
          unfold OwnBools at h
          rw [hlv] at h
          exact h
        rw [hlv] at hV h91 ⊢
        have HLV := Lib.hid hlv
        clear hlv hown
        unfold maxLen at h92
        by_cases hlt : k < gs.length
        · obtain ⟨b, o, A', c', rfl, hbB, g0, g1, g2, hI, hnc, hcm'⟩ := hg.at_ (hB2.mono hB) hlt
          have hgood := check_gate (HC0.out trivial) k hlt
          have hbd := check_bounds (HC0.out trivial)
          have hgl := good_len hgood
          have hk4 : gs.length ≤ 4096 := hbd.2.2.2.1
          have kv : ∀ W, Below wr.heap.size wr W → Calls Try.prog 44 #[.agg #[.int .i64 gs[k].kind, .int .i64 gs[k].lit, .slice A' gs[k].inp.length c'], (.agg #[.int .u64 ((s).a.toNat : Int), .int .u64 ((s).b.toNat : Int)]), .slice A9 k c9] W fun e w' => e = .returned (.bool (valueOf gs[k] s (valsTo gs s k))) ∧ Below wr.heap.size wr w' :=
            fun W hW => kept (ref07_value gs[k] _ s _ (valsTo gs s k) W B wr.heap.size (by have := hb3.size; have := hW.size; omega) hW.size (hI.below ((hb.trans (hW.mono hb.size)).mono (by have := hB2.size; omega))) (hV.below hW)
              (fun j x hx => by have := good_in' hgood j x hx; rw [HLV.out]; omega) hgl.2.2.2.1 hgl.2.2.1 (fun h => okL.mono (m := N) ((litOk_iff _ _ hbd.1 hbd.2.1).1 (good_lit hgood h)) hbd.2.1)) hW
          have hsucc := valsTo_succ gs s k hlt
          generalize valueOf gs[k] s (valsTo gs s k) = y at kv hsucc
          have hbl : b < w2.heap.size := by have := hB2.size; omega
          generalize gs[k] = g at g0 g1 g2 kv
          obtain ⟨gk, gl, gi⟩ := g
          simp only at g0 g1 g2 kv
          have G0 : ∀ W, Below w2.heap.size w2 W → W.cell? ⟨b, o + k * 3, none⟩ = some (.int .i64 gk) := fun W hW => (hW.cell (p := ⟨b, o + k * 3, none⟩) hbl).trans g0
          have G1 : ∀ W, Below w2.heap.size w2 W → W.cell? ⟨b, o + k * 3 + 1, none⟩ = some (.int .i64 gl) := fun W hW => (hW.cell (p := ⟨b, o + k * 3 + 1, none⟩) hbl).trans g1
          have G2 : ∀ W, Below w2.heap.size w2 W → W.cell? ⟨b, o + k * 3 + 2, none⟩ = some (.slice A' gi.length c') := fun W hW => (hW.cell (p := ⟨b, o + k * 3 + 2, none⟩) hbl).trans g2
          have gg0 := G0 _ hb
          have gg1 := G1 _ hb
          have gg2 := G2 _ hb
          have hblr : b < wr.heap.size := by have := hb.size; omega
          have KV := Lib.hid kv
          have HSU := Lib.hid hsucc
          clear kv hsucc hgood hI hV hgl hbd g0 g1 g2
          go_wp2
          have C0 := B0.out.later 0 _ rfl
          have C1 := B0.out.later 1 _ rfl
          have D0 := B1.out.later 0 _ rfl
          have D1 := B1.out.later 1 _ rfl
          have hbB' : Below wr.heap.size wr wr.drew := (Below.refl _ _).drew
          have hbd : Below w2.heap.size w2 wr.drew := hb.drew
          have sf : ∀ w', Below w2.heap.size w2 w' → w'.cell? ⟨w.heap.size, 0, none⟩ = some (.int .i64 N) ∧ w'.cell? ⟨w.heap.size, 1, none⟩ = some (.slice (some ⟨b, o, none⟩) gs.length c) ∧ w'.cell? ⟨w.heap.size + 1, 0, none⟩ = some (.int .u64 (s.a.toNat : Int)) ∧ w'.cell? ⟨w.heap.size + 1, 1, none⟩ = some (.int .u64 (s.b.toNat : Int)) ∧ w'.cell? ⟨b, o + k * 3, none⟩ = some (.int .i64 gk) ∧ w'.cell? ⟨b, o + k * 3 + 1, none⟩ = some (.int .i64 gl) ∧ w'.cell? ⟨b, o + k * 3 + 2, none⟩ = some (.slice A' gi.length c') ∧ Below w2.heap.size w2 w' := fun w' h => ⟨C0 _ h, C1 _ h, D0 _ h, D1 _ h, G0 _ h, G1 _ h, G2 _ h, h⟩
          have SF := Lib.hid sf
          clear sf C0 C1 D0 D1 G0 G1 G2
          go_region_held_law (fun w' => w'.cell? ⟨w.heap.size, 0, none⟩ = some (.int .i64 N) ∧ w'.cell? ⟨w.heap.size, 1, none⟩ = some (.slice (some ⟨b, o, none⟩) gs.length c) ∧ w'.cell? ⟨w.heap.size + 1, 0, none⟩ = some (.int .u64 (s.a.toNat : Int)) ∧ w'.cell? ⟨w.heap.size + 1, 1, none⟩ = some (.int .u64 (s.b.toNat : Int)) ∧ w'.cell? ⟨b, o + k * 3, none⟩ = some (.int .i64 gk) ∧ w'.cell? ⟨b, o + k * 3 + 1, none⟩ = some (.int .i64 gl) ∧ w'.cell? ⟨b, o + k * 3 + 2, none⟩ = some (.slice A' gi.length c') ∧ Below w2.heap.size w2 w') (first | exact SF.out _ hbd | exact SF.out _ hbw6 | exact SF.out _ (hbw5.alloc hbw5.size _) | exact SF.out _ hbw5)
            (first
              | (refine step_append_cells _ rfl (.tmp 25) (.tmp 34) 61 4 1 1 _ Try.underlying61 info_bool' rfl (by decide) rfl w2.heap.size _ _ _ rfl (own_below hown' hb5) [.bool y] rfl (by intro u hu; simp at hu; subst hu; rfl) rfl (by omega) (by omega) (by exact Nat.le_trans hb.size hb5.size) ?_; intro A8 c8 w6 hown6 hg6; have hbw6 : Below w2.heap.size w2 w6 := hbw5.trans (below_of_grown hg6 hbw5.size (fun k' hk' => (own_ge hown' hk').1)))
              | (go_at_call 44; (with_reducible refine (KV.out _ (by first | exact hbB' | assumption)).mono ?_); rintro e w5 ⟨rfl, hb5⟩; have hbw5 : Below w2.heap.size w2 w5 := hb.trans (hb5.mono hb.size)))
          go_wp2
          go_roundw
          case rel => exact ⟨k + 1, by omega, by go_num, by rw [HSU.out]; unfold OwnBools; rw [List.length_append, List.map_append, HLV.out]; exact hown6, hbw6⟩
          case measure => simp [intOf]; omega
        · have e : k = gs.length := by omega
          subst e
          have hbd := check_bounds (HC0.out trivial)
          have hix := last_toNat gs.length hbd.2.2.1
          have hpos := hbd.2.2.1
          have hle := hbd.2.2.2.1
          have hkm : gs.length - 1 < (valsTo gs s gs.length).length := by rw [HLV.out]; omega
          obtain ⟨b9, o9, rfl, hb9, hcell⟩ := BoolsV.at_ (n := gs.length) (c := c9) hV (Below.refl _ _) hkm
          have hres : r = (valsTo gs s gs.length)[gs.length - 1] := by
            rw [HR.out]
            unfold valOf
            rw [List.getD_eq_getElem?_getD, List.getElem?_eq_getElem hkm]
            simp
          have HRES := Lib.hid hres
          clear hres
          generalize (valsTo gs s gs.length)[gs.length - 1] = y at hcell HRES
          clear hbd
          go_wp2
          go_ret
          exact ⟨ret_bool (by rw [HRES.out]), hb3⟩
  · rcases hcc with hc | hc | hc | hc
    · exact absurd hc h0
    all_goals
      have hrf : r = false := by rw [HR.out]; simp [h0]
      subst hrf
      subst hc
      clear h0
      go_enter Try.func20, Try.ntmps20
      go_wp2
      first | go_region_with (go_at_call 34; refine (K1.out _ (by go_grown)).mono ?_; rintro e w' ⟨rfl, hB'⟩) | fail
      all_goals
        go_wp2
        go_ret
        exact ⟨rfl, Below.trans (by go_grown) (hB'.mono (by simp <;> omega))⟩
end Go.Proofs.Ytlifakbdgmdafaa
