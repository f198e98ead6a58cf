/-
  What tseitin's xor does: partial sums.
-/
import Derived.Test.YtlifakbdgmdafaaWEnc3
namespace Go.Proofs.Ytlifakbdgmdafaa
open Go Go.RowKit

def ES.xorGo (s : ES) (last : Int) : List Int → ES × Int
  | [] => (s, last)
  | a :: r => if s.fresh.full then (s.fresh, s.var) else (s.fresh.adds (sumRows s.var last a)).xorGo s.var r
theorem ES.fresh_L (s : ES) : s.fresh.L = s.L := by unfold ES.fresh; split <;> rfl
theorem ES.fresh_n (s : ES) (h0 : 0 ≤ s.n) (h : s.n ≤ 128) : 0 ≤ s.fresh.n ∧ s.fresh.n ≤ 128 := by unfold ES.fresh; split <;> (simp only []; omega)
theorem ES.var_n (s : ES) (h0 : 0 ≤ s.n) (h : s.n ≤ 128) : 1 ≤ s.var ∧ s.var ≤ 129 := by unfold ES.var; split <;> omega

set_option maxRecDepth 100000 in
set_option maxHeartbeats 3200000 in
theorem enc_xor (w : World) (Av : Nat → Prop) (hA : ∀ k, w.heap.size ≤ k → Av k) (base ge : Nat) (s : ES) (gi : Nat) (l0 : Int) (r : List Int) (h : Enc w Av base ge s) (hL : s.L.length ≤ 400000) (hn0 : 0 ≤ s.n) (hn1 : s.n ≤ 128) (hin : Blk w gi 3 (intCells (l0 :: r))) (hr0 : 0 < r.length) (hl : r.length ≤ 100000)
    (hl2 : ∀ x ∈ l0 :: r, -1000000 ≤ x ∧ x ≤ 1000000) :
    Calls Try.prog 58 #[.pointer (some ⟨ge, 0, none⟩), .slice (some ⟨gi, 0, none⟩) (r.length + 1) (r.length + 1)] w fun e w' => e = .returned (.int .i64 (s.xorGo l0 r).2) ∧ Enc w' Av base ge (s.xorGo l0 r).1 ∧ Fr base ge w w' := by
  obtain ⟨post, hpost⟩ : ∃ post, post = s.xorGo l0 r := ⟨_, rfl⟩
  rw [← hpost]
  have HP := Lib.hid hpost
  have h00 := hl2 l0 (List.mem_cons_self)
  have HL2 := Lib.hid (fun x hx => hl2 x (List.mem_cons_of_mem _ hx))
  have HA := Lib.hid hA
  have H := Lib.hid h
  have HIN := Lib.hid hin
  have hgi := hin.lt
  have hge := h.lt
  have hne : gi ≠ ge := by
    obtain ⟨_, _, _, h2, _⟩ := h
    exact hin.apart h2 (by decide)
  have c0 := hin.cell 0
  rw [intCells_get _ _ (by simp)] at c0
  simp at c0
  clear hpost hl2 hA h hin
  have hr1 : ¬ r.length = 0 := by omega
  have hr2 : ¬ 0 = r.length := by omega
  go_enter Try.func58, Try.ntmps58
  go_wp2
  go_loopw [5, 15] (fun v i wr => ∃ (k : Nat) (s' : ES) (last : Int), k ≤ r.length ∧ i = .int .i64 k ∧ v = .int .i64 last ∧ post = s'.xorGo last (r.drop k) ∧ s'.L.length ≤ s.L.length + 4 * k ∧ 0 ≤ s'.n ∧ s'.n ≤ 128 ∧ -1000000 ≤ last ∧ last ≤ 1000000 ∧ Enc wr Av base ge s' ∧ Fr base ge w wr) (fun _ i _ => r.length - (intOf i).toNat)
  case atStart => exact ⟨0, s, l0, by omega, rfl, rfl, HP.out, by omega, hn0, hn1, h00.1, h00.2, H.out, Fr.refl _ _ _⟩
  case round =>
    obtain ⟨k, s', last, hk, rfl, rfl, hp, hlen, hs0, hs1, hla, hlb, hE, hF⟩ := hrel
    have hB := hF.size
    have hin' := hF.blk HIN.out hne (.inl (by decide))
    have HPP := Lib.hid hp
    have HE := Lib.hid hE
    have HF := Lib.hid hF
    clear hp hE hF
    by_cases hlt : k < r.length
    · have cx := hin'.cell (1 + k)
      rw [intCells_get _ _ (by simp; omega)] at cx
      have e1 : (l0 :: r)[1 + k]'(by simp; omega) = r[k] := by simp [Nat.add_comm 1 k]
      rw [e1] at cx
      have hx := HL2.out r[k] (List.getElem_mem hlt)
      have hdr : r.drop k = r[k] :: r.drop (k + 1) := List.drop_eq_getElem_cons hlt
      generalize r[k] = x at cx hx hdr
      rw [hdr] at HPP
      obtain ⟨hx1, hx2⟩ := hx
      clear hdr e1
      have hv := s'.var_n hs0 hs1
      have hfn := s'.fresh_n hs0 hs1
      have hfL := s'.fresh_L
      have HFL := Lib.hid hfL
      clear hfL
      obtain ⟨hv1, hv2⟩ := hv
      generalize hpv : s'.var = p at hv1 hv2
      have HPV := Lib.hid hpv
      clear hpv
      have kf := enc_fresh wr Av base ge s' HE.out hs0 hs1
      rw [HPV.out] at kf
      have KF := Lib.hid kf
      clear kf
      by_cases hfull : s'.fresh.full = true
      · have hres : post = (s'.fresh, p) := by rw [HPP.out, ES.xorGo, if_pos hfull, HPV.out]
        go_wp2_with fail
        refine KF.out.mono ?_
        rintro e w1 ⟨rfl, hE1, hF1⟩
        obtain ⟨_, A1, c1, blk, _⟩ := id hE1
        have q2 := blk.cell 2
        simp [hfull] at q2
        have HRES := Lib.hid hres
        clear hres hfull
        go_wp2
        go_ret
        exact ⟨by rw [HRES.out]; rfl, by rw [HRES.out]; exact hE1, HF.out.trans hF1⟩
      · have hfull' : s'.fresh.full = false := by simpa using hfull
        have hstep : post = (s'.fresh.adds (sumRows p last x)).xorGo p (r.drop (k + 1)) := by rw [HPP.out, ES.xorGo, if_neg hfull, HPV.out]
        have HSTEP := Lib.hid hstep
        clear hstep hfull
        have hal := ES.adds_len s'.fresh (sumRows p last x)
        rw [HFL.out] at hal
        have hal' : (s'.fresh.adds (sumRows p last x)).L.length ≤ s'.L.length + 4 := hal
        clear hal
        have han := ES.adds_n s'.fresh (sumRows p last x)
        have HAN := Lib.hid han
        clear han
        go_wp2_with fail
        refine KF.out.mono ?_
        rintro e w1 ⟨rfl, hE1, hF1⟩
        obtain ⟨_, A1, c1, blk, _⟩ := id hE1
        have q2 := blk.cell 2
        simp [hfull'] at q2
        have hs1' := hF1.size
        have HFF := Lib.hid hfull'
        clear hfull'
        go_wp2_with fail
        refine (enc_sum w1 Av (fun k hk => HA.out k (by omega)) base ge s'.fresh p last x hE1 (by rw [HFL.out]; omega) ⟨by omega, by omega⟩ ⟨hla, hlb⟩ ⟨hx1, hx2⟩).mono ?_
        rintro e w2 ⟨rfl, hE2, hF2⟩
        go_wp2
        go_roundw
        case rel => exact ⟨k + 1, _, p, by omega, by go_num, rfl, HSTEP.out, by omega, by rw [HAN.out]; exact hfn.1, by rw [HAN.out]; exact hfn.2, by omega, by omega, hE2, (HF.out.trans hF1).trans hF2⟩
        case measure => simp [intOf]; omega
    · have e : k = r.length := by omega
      subst e
      rw [List.drop_length] at HPP
      have hres : post = (s', last) := HPP.out
      have HRES := Lib.hid hres
      clear hres
      go_wp2
      go_ret
      exact ⟨by rw [HRES.out]; rfl, by rw [HRES.out]; exact HE.out, HF.out⟩
end Go.Proofs.Ytlifakbdgmdafaa
