/-
  What tseitin's and does: the clauses of a conjunction, or of a disjunction.
-/
import Derived.Test.YtlifakbdgmdafaaWEnc2
namespace Go.Proofs.Ytlifakbdgmdafaa
open Go Go.RowKit

/-- 'out = append(out, y)' on the call's own []int: and where the new slice lies. -/
theorem append_int_at (w0 : World) {ops : Array Oper} {rest : List Oper} {o : Oper} {a : Act} {Q : Exit → Act → World → Prop} (hgd : o.guard = none) (s x : Operand)
    (ho : o.op = .call { callee := .builtin .append, args := #[s, x], argTypes := #[30, 30] }) (base : Nat) (v : Value) (l : List Int) (y : Int) (hs : a.eval s = v) (hown : OwnInts w0 base v l)
    (hx : a.eval x = .slice (some ⟨w0.heap.size, 0, none⟩) 1 1) (hlen : l.length ≤ 1099511627776) (hbase : base ≤ w0.heap.size)
    (h : ∀ v' w', OwnInts w' base v' (l ++ [y]) → w0.grownBy w' v.ownBlock → (v'.ownBlock = v.ownBlock ∨ v'.ownBlock = some (w0.heap.size + 1)) → wpList Try.prog ops Q rest (a.put o.dst v') w') :
    wpList Try.prog ops Q (o :: rest) a (w0.alloc (.cells #[.int .i64 y] 3)) := by
  obtain ⟨i, hi, hz, hsz, hb⟩ := info_parts info_int
  refine wpList_plain hgd fun K hK => ?_
  obtain ⟨v', w', hrun, h2, h3, _, h5⟩ := run_append_own_at (P := Try.prog) (w0.alloc (.cells #[.int .i64 y] 3)) base 30 o.type 3 i _ 1 8 Try.underlying30 hi hz hsz hb rfl (by decide) v _ _ (hown.alloc _) ⟨w0.heap.size, 0, none⟩ 1 1 [.int .i64 y] rfl
    (fun j u hu => by
      have hadd : (⟨w0.heap.size, 0, none⟩ : Addr).add j = ⟨w0.heap.size, j, none⟩ := by unfold Addr.add; split <;> simp_all
      rw [hadd, (Blk.new w0 3 #[.int .i64 y]).cell j]
      simpa using hu)
    (by intro u hu; simp at hu; subst hu; rfl) (by unfold maxLen; omega) (by omega) (by simp; omega)
  unfold Oper.wp execOp
  simp only [ho, resolve, invoke, builtin, Sem.run_bind, Sem.run_pure, Result.andThen_ok, List.map_toArray, List.map_cons, List.map_nil, hs, hx, hrun]
  refine hK _ _ (h v' w' (OwnInts.cast h2) ⟨h3.os, h3.tape, h3.output, Nat.le_trans (by simp) h3.size, fun k hk hne => (h3.block k (by simp; omega) hne).trans (Below.heap_alloc _ _ _ hk)⟩ ?_)
  rcases h5 with h5 | h5
  · exact .inl h5
  · exact .inr (by rw [h5]; simp)

theorem own_one {w : World} {g base : Nat} {y : Int} (h : Blk w g 3 #[.int .i64 y]) (hb : base ≤ g) : OwnInts w base (.slice (some ⟨g, 0, none⟩) 1 1) [y] :=
  ⟨rfl, .inr ⟨g, 1, #[.int .i64 y], rfl, hb, h, Nat.le_refl _, by unfold maxLen; omega, rfl, rfl⟩⟩
def andRow (sign g a : Int) : List Int := if 0 < sign then [-g, a] else [g, -a]
def andRows (sign g : Int) (l : List Int) : List (List Int) := l.map (andRow sign g) ++ [sign * g :: l.map (fun a => -sign * a)]

set_option maxRecDepth 100000 in
set_option maxHeartbeats 3200000 in
theorem enc_and_yes (w : World) (Av : Nat → Prop) (hA : ∀ k, w.heap.size ≤ k → Av k) (base ge : Nat) (s : ES) (g : Int) (gi : Nat) (l : List Int) (h : Enc w Av base ge s) (hL : s.L.length ≤ 500000) (hin : Blk w gi 3 (intCells l)) (hl : l.length ≤ 100000)
    (hg : -1000000 ≤ g ∧ g ≤ 1000000) (hl2 : ∀ x ∈ l, -1000000 ≤ x ∧ x ≤ 1000000) :
    Calls Try.prog 60 #[.func (.func 32) #[.pointer (some ⟨ge, 0, none⟩)] #[], .int .i64 g, .slice (some ⟨gi, 0, none⟩) l.length l.length, .int .i64 (1)] w fun e w' => e = .returned (.tuple #[]) ∧ Enc w' Av base ge (s.adds (andRows (1) g l)) ∧ Fr base ge w w' := by
  obtain ⟨hg1, hg2⟩ := hg
  obtain ⟨post, hpost⟩ : ∃ post, post = s.adds (andRows (1) g l) := ⟨_, rfl⟩
  rw [← hpost]
  have HP := Lib.hid hpost
  have HL2 := Lib.hid hl2
  have HA := Lib.hid hA
  have H := Lib.hid h
  have HIN := Lib.hid hin
  have hgi := hin.lt
  have hge := h.lt
  have hne : gi ≠ ge := by
    obtain ⟨_, _, _, h2, _⟩ := h
    exact hin.apart h2 (by decide)
  clear hpost hl2 hA h hin
  go_enter Try.func60, Try.ntmps60
  go_wp2
  go_loopw [8, 17] (fun v i wr => ∃ k : Nat, k ≤ l.length ∧ i = .int .i64 k ∧ Enc wr (fun k => Av k ∧ v.ownBlock ≠ some k) base ge (s.adds ((l.take k).map (andRow (1) g))) ∧ OwnInts wr w.heap.size v ((1) * g :: (l.take k).map (fun a => -(1) * a)) ∧ Fr base ge w wr) (fun _ i _ => l.length - (intOf i).toNat)
  case atStart =>
    refine ⟨0, by omega, rfl, ?_, ?_, (Fr.refl _ _ _).trans (Fr.of_below (by go_grown))⟩
    · exact (H.out.mono (fun k hk hAv => ⟨hAv, by simp [Value.ownBlock]; omega⟩)).below (by go_grown)
    · rw [List.take_zero, List.map_nil, show (1 : Int) * g = g from by omega]
      exact own_one (Blk.new w 3 #[.int .i64 (g)]) (Nat.le_refl _)
  case round =>
    obtain ⟨k, hk, rfl, hE, hown, hF⟩ := hrel
    have hB := hF.size
    have hvlt := fun (b : Nat) hb => (own_ge (g := b) hown hb)
    have hlen0 := ES.adds_len s ((l.take k).map (andRow (1) g))
    have hlen1 : (s.adds ((l.take k).map (andRow (1) g))).L.length ≤ 1000000 := by rw [List.length_map, List.length_take] at hlen0; omega
    have hin' := hF.blk HIN.out hne (.inl (by decide))
    obtain ⟨_, _, _, hencB, _⟩ := id hE
    have hvge : u8.ownBlock ≠ some ge := own_blk_ne hown hencB (by decide)
    have HVGE := Lib.hid hvge
    have HE := Lib.hid hE
    have HOWN := Lib.hid hown
    have HF := Lib.hid hF
    clear hE hown hF hlen0 hvge hencB
    by_cases hlt : k < l.length
    · have cx := hin'.cell k
      rw [intCells_get l k hlt] at cx
      have hx := HL2.out l[k] (List.getElem_mem hlt)
      have htk : l.take (k + 1) = l.take k ++ [l[k]] := by rw [List.take_succ_eq_append_getElem hlt]
      generalize l[k] = x at cx hx htk
      have HT := Lib.hid htk
      obtain ⟨hx1, hx2⟩ := hx
      clear htk
      go_wp2_with fail
      refine (add_step _ (fun k => Av k ∧ u8.ownBlock ≠ some k) (fun k hk => ⟨HA.out k (by omega), fun e => by have := hvlt k e; omega⟩) base ge _ [-g, x] _ _ rfl rfl HE.out (by simp) hlen1).mono ?_
      rintro e w1 ⟨rfl, hE1, hF1⟩
      have hown1 := Fr.ints hF1 HOWN.out HVGE.out
      have hs1 := hF1.size
      go_wp2_with (at_builtin; refine append_int_at w1 rfl (.tmp 35) (.tmp 40) rfl w.heap.size _ _ (-x) rfl hown1 rfl (by simp; omega) (by omega) ?_; intro v' w2 hown' hgrow hwhere)
      go_roundw
      case rel =>
        refine ⟨k + 1, by omega, by go_num, ?_, ?_, (HF.out.trans hF1).grown_new hgrow (fun b hb => (hvlt b hb).1)⟩
        · rw [HT.out, List.map_append, ES.adds_append]
          refine Enc.mono (Av := fun k => (Av k ∧ u8.ownBlock ≠ some k) ∧ k < w1.heap.size) ((hE1.mono (fun k hk h => ⟨h, hk⟩)).grown (n := w.heap.size) (v := u8) (xs := (1 * g :: (l.take k).map (fun a => -(1) * a)).map (Value.int .i64)) (by have := hown1; unfold OwnInts at this; simpa using this) hgrow (fun k hk h => h.1.2 hk)) (fun k hk h => ⟨h.1.1, fun e => ?_⟩)
          rcases hwhere with hw | hw
          · exact h.1.2 (by rw [← e]; exact hw.symm)
          · have h9 := h.2
            rw [hw] at e
            injection e with e
            omega
        · rw [HT.out, List.map_append]
          simpa using hown'
      case measure => simp [intOf]; omega
    · have e : k = l.length := by omega
      subst e
      have hV := HOWN.out.V
      go_wp2_with fail
      refine (enc_add _ Av (fun k hk => HA.out k (by omega)) base ge _ _ _ _ (HE.out.mono (fun k hk h => h.1)) hV (Nat.le_refl _) (by simp; omega) (by omega)).mono ?_
      rintro e w1 ⟨rfl, hE1, hF1⟩
      go_wp2
      go_end0
      refine ⟨rfl, ?_, HF.out.trans hF1⟩
      rw [HP.out]
      unfold andRows
      rw [ES.adds_append]
      rw [List.take_length] at hE1
      exact hE1

set_option maxRecDepth 100000 in
set_option maxHeartbeats 3200000 in
theorem enc_and_no (w : World) (Av : Nat → Prop) (hA : ∀ k, w.heap.size ≤ k → Av k) (base ge : Nat) (s : ES) (g : Int) (gi : Nat) (l : List Int) (h : Enc w Av base ge s) (hL : s.L.length ≤ 500000) (hin : Blk w gi 3 (intCells l)) (hl : l.length ≤ 100000)
    (hg : -1000000 ≤ g ∧ g ≤ 1000000) (hl2 : ∀ x ∈ l, -1000000 ≤ x ∧ x ≤ 1000000) :
    Calls Try.prog 60 #[.func (.func 32) #[.pointer (some ⟨ge, 0, none⟩)] #[], .int .i64 g, .slice (some ⟨gi, 0, none⟩) l.length l.length, .int .i64 (-1)] w fun e w' => e = .returned (.tuple #[]) ∧ Enc w' Av base ge (s.adds (andRows (-1) g l)) ∧ Fr base ge w w' := by
  obtain ⟨hg1, hg2⟩ := hg
  obtain ⟨post, hpost⟩ : ∃ post, post = s.adds (andRows (-1) g l) := ⟨_, rfl⟩
  rw [← hpost]
  have HP := Lib.hid hpost
  have HL2 := Lib.hid hl2
  have HA := Lib.hid hA
  have H := Lib.hid h
  have HIN := Lib.hid hin
  have hgi := hin.lt
  have hge := h.lt
  have hne : gi ≠ ge := by
    obtain ⟨_, _, _, h2, _⟩ := h
    exact hin.apart h2 (by decide)
  clear hpost hl2 hA h hin
  go_enter Try.func60, Try.ntmps60
  go_wp2
  go_loopw [8, 17] (fun v i wr => ∃ k : Nat, k ≤ l.length ∧ i = .int .i64 k ∧ Enc wr (fun k => Av k ∧ v.ownBlock ≠ some k) base ge (s.adds ((l.take k).map (andRow (-1) g))) ∧ OwnInts wr w.heap.size v ((-1) * g :: (l.take k).map (fun a => -(-1) * a)) ∧ Fr base ge w wr) (fun _ i _ => l.length - (intOf i).toNat)
  case atStart =>
    refine ⟨0, by omega, rfl, ?_, ?_, (Fr.refl _ _ _).trans (Fr.of_below (by go_grown))⟩
    · exact (H.out.mono (fun k hk hAv => ⟨hAv, by simp [Value.ownBlock]; omega⟩)).below (by go_grown)
    · rw [List.take_zero, List.map_nil, show (-1 : Int) * g = -g from by omega]
      exact own_one (Blk.new w 3 #[.int .i64 (-g)]) (Nat.le_refl _)
  case round =>
    obtain ⟨k, hk, rfl, hE, hown, hF⟩ := hrel
    have hB := hF.size
    have hvlt := fun (b : Nat) hb => (own_ge (g := b) hown hb)
    have hlen0 := ES.adds_len s ((l.take k).map (andRow (-1) g))
    have hlen1 : (s.adds ((l.take k).map (andRow (-1) g))).L.length ≤ 1000000 := by rw [List.length_map, List.length_take] at hlen0; omega
    have hin' := hF.blk HIN.out hne (.inl (by decide))
    obtain ⟨_, _, _, hencB, _⟩ := id hE
    have hvge : u8.ownBlock ≠ some ge := own_blk_ne hown hencB (by decide)
    have HVGE := Lib.hid hvge
    have HE := Lib.hid hE
    have HOWN := Lib.hid hown
    have HF := Lib.hid hF
    clear hE hown hF hlen0 hvge hencB
    by_cases hlt : k < l.length
    · have cx := hin'.cell k
      rw [intCells_get l k hlt] at cx
      have hx := HL2.out l[k] (List.getElem_mem hlt)
      have htk : l.take (k + 1) = l.take k ++ [l[k]] := by rw [List.take_succ_eq_append_getElem hlt]
      generalize l[k] = x at cx hx htk
      have HT := Lib.hid htk
      obtain ⟨hx1, hx2⟩ := hx
      clear htk
      go_wp2_with fail
      refine (add_step _ (fun k => Av k ∧ u8.ownBlock ≠ some k) (fun k hk => ⟨HA.out k (by omega), fun e => by have := hvlt k e; omega⟩) base ge _ [g, -x] _ _ rfl rfl HE.out (by simp) hlen1).mono ?_
      rintro e w1 ⟨rfl, hE1, hF1⟩
      have hown1 := Fr.ints hF1 HOWN.out HVGE.out
      have hs1 := hF1.size
      go_wp2_with (at_builtin; refine append_int_at w1 rfl (.tmp 35) (.tmp 40) rfl w.heap.size _ _ (x) rfl hown1 rfl (by simp; omega) (by omega) ?_; intro v' w2 hown' hgrow hwhere)
      go_roundw
      case rel =>
        refine ⟨k + 1, by omega, by go_num, ?_, ?_, (HF.out.trans hF1).grown_new hgrow (fun b hb => (hvlt b hb).1)⟩
        · rw [HT.out, List.map_append, ES.adds_append]
          refine Enc.mono (Av := fun k => (Av k ∧ u8.ownBlock ≠ some k) ∧ k < w1.heap.size) ((hE1.mono (fun k hk h => ⟨h, hk⟩)).grown (n := w.heap.size) (v := u8) (xs := (-1 * g :: (l.take k).map (fun a => -(-1) * a)).map (Value.int .i64)) (by have := hown1; unfold OwnInts at this; simpa using this) hgrow (fun k hk h => h.1.2 hk)) (fun k hk h => ⟨h.1.1, fun e => ?_⟩)
          rcases hwhere with hw | hw
          · exact h.1.2 (by rw [← e]; exact hw.symm)
          · have h9 := h.2
            rw [hw] at e
            injection e with e
            omega
        · rw [HT.out, List.map_append]
          simpa using hown'
      case measure => simp [intOf]; omega
    · have e : k = l.length := by omega
      subst e
      have hV := HOWN.out.V
      go_wp2_with fail
      refine (enc_add _ Av (fun k hk => HA.out k (by omega)) base ge _ _ _ _ (HE.out.mono (fun k hk h => h.1)) hV (Nat.le_refl _) (by simp; omega) (by omega)).mono ?_
      rintro e w1 ⟨rfl, hE1, hF1⟩
      go_wp2
      go_end0
      refine ⟨rfl, ?_, HF.out.trans hF1⟩
      rw [HP.out]
      unfold andRows
      rw [ES.adds_append]
      rw [List.take_length] at hE1
      exact hE1
end Go.Proofs.Ytlifakbdgmdafaa
