/-
  Lemmas and contracts, joined: Vmv Vpa Vpar Vsc.
-/
import Derived.Test.YtpeoodkepjhhiaaDoorPk3
namespace Go.Proofs.YtpeoodkepjhhiaaDoor

/-- The tree below a node, the node at turned: kind 1: ((a b) c) to (a (b c)); 2: (a (b c)) to ((a b) c); 3: the children exchanged. -/
def chT (ts : List VN) (kind at_ : Nat) : Nat → Nat → Tr
  | 0, _ => .leaf 0
  | n + 1, i => match ts[i]? with
    | none => .leaf 0
    | some x => if lf x then .leaf x.v
      else if i = at_ ∧ kind = 1 then (match ts[x.l.toNat]? with
        | none => .leaf 0
        | some y => .node (trF ts n y.l.toNat) (.node (trF ts n y.r.toNat) (trF ts n x.r.toNat)))
      else if i = at_ ∧ kind = 2 then (match ts[x.r.toNat]? with
        | none => .leaf 0
        | some y => .node (.node (trF ts n x.l.toNat) (trF ts n y.l.toNat)) (trF ts n y.r.toNat))
      else if i = at_ ∧ kind = 3 then .node (chT ts kind at_ n x.r.toNat) (chT ts kind at_ n x.l.toNat)
      else .node (chT ts kind at_ n x.l.toNat) (chT ts kind at_ n x.r.toNat)
def innerB (ts : List VN) (i : Int) : Bool := decide (0 ≤ i) && (match ts[i.toNat]? with
  | some x => !lf x
  | none => false)
def childOf (ts : List VN) (kind : Nat) (i : Int) : Int := match ts[i.toNat]? with
  | some x => if kind = 1 then x.l else x.r
  | none => -1
def canB (ts : List VN) (kind : Nat) (i : Int) : Bool := okT ts && innerB ts i && (decide (kind = 3) || innerB ts (childOf ts kind i))
def movOf (ts : List VN) (kind : Nat) (i : Int) : List VN × Int := if canB ts kind i then (post (chT ts kind i.toNat ts.length (ts.length - 1)) 0, 0) else ([], 1)
/-- The children that the program's change gives. -/
def fR (at_ low p q c : Nat) : Nat → Nat → Nat → Nat × Nat := fun i a b => if i = at_ then (p, low) else if i = low then (q, c) else (a, b)
def fL (at_ low p q c : Nat) : Nat → Nat → Nat → Nat × Nat := fun i a b => if i = at_ then (low, q) else if i = low then (c, p) else (a, b)
def fS (at_ : Nat) : Nat → Nat → Nat → Nat × Nat := fun i a b => if i = at_ then (b, a) else (a, b)
section
variable {ts : List VN}
theorem At.keep {f : Nat → Nat → Nat → Nat × Nat} {j : Nat} {T : Tr} {vs : List Nat} (h : At ts idF j T vs) (hf : ∀ k ∈ vs, ∀ a b : Nat, f k a b = (a, b)) : At ts f j T vs := by
  induction h with
  | leaf h h1 h2 => exact .leaf h h1 h2
  | node h he _ _ h1 h2 =>
    injection he with e1 e2
    subst e1 e2
    exact .node h (hf _ (by simp) _ _) (h1 (fun k hk => hf k (by simp [hk]))) (h2 (fun k hk => hf k (by simp [hk])))
theorem Val.in_ (hV : Val ts) {i a b : Nat} (h : ts[i]? = some ⟨(a : Int), (b : Int), 0⟩) : a < i ∧ b < i ∧ a ≠ b ∧ i < ts.length := by
  have hi := (List.getElem?_eq_some_iff.1 h).1
  rcases hV.kind _ _ h with ⟨v, hx, _⟩ | ⟨a', b', hx, ha, hb, hne⟩
  · injection hx with hx _ _; omega
  · injection hx with e1 e2 _
    omega
/-- A node that is low's parent is at; so what lies below at, but for low's part, has neither. -/
theorem At.below_ (hV : Val ts) {at_ low j a b : Nat} {T : Tr} {vs : List Nat} (hat : ts[at_]? = some ⟨(a : Int), (b : Int), 0⟩) (hl : low = a ∨ low = b) (h : At ts idF j T vs) (hj : j < at_) (hne : j ≠ low) : ∀ k ∈ vs, k ≠ at_ ∧ k ≠ low := by
  intro k hk
  have hle := h.le hV k hk
  refine ⟨by omega, ?_⟩
  rintro rfl
  obtain ⟨p, c, d, hp, hq, hkk⟩ := h.par k hk (fun e => hne e.symm)
  have := hV.up p at_ c d a b k hq hat hkk hl
  have := h.le hV p hp
  omega
theorem At.get (hV : Val ts) {n j : Nat} (hn : j < n) (hj : j < ts.length) : ∃ vs, At ts idF j (trF ts n j) vs := by
  obtain ⟨T, vs, h⟩ := At.exists_ hV (j + 1) j (by omega) hj
  exact ⟨vs, by rw [h.tr hV n hn]; exact h⟩
theorem chT_leaf {kind at_ n i : Nat} {v : Int} (h : ts[i]? = some ⟨-1, -1, v⟩) (h1 : 1 ≤ v) (h2 : v ≤ 128) : chT ts kind at_ (n + 1) i = .leaf v := by
  unfold chT
  rw [h]
  simp [lf_leaf h1 h2]
theorem chT_node {kind at_ n i a b : Nat} (h : ts[i]? = some ⟨(a : Int), (b : Int), 0⟩) (hne : i ≠ at_) : chT ts kind at_ (n + 1) i = .node (chT ts kind at_ n a) (chT ts kind at_ n b) := by
  conv => lhs; unfold chT
  rw [h]
  simp [lf_inner, hne]
theorem chT_r {at_ n a b p q : Nat} (h : ts[at_]? = some ⟨(a : Int), (b : Int), 0⟩) (h2 : ts[a]? = some ⟨(p : Int), (q : Int), 0⟩) : chT ts 1 at_ (n + 1) at_ = .node (trF ts n p) (.node (trF ts n q) (trF ts n b)) := by
  conv => lhs; unfold chT
  rw [h]
  simp [lf_inner, h2]
theorem chT_l {at_ n a b p q : Nat} (h : ts[at_]? = some ⟨(a : Int), (b : Int), 0⟩) (h2 : ts[b]? = some ⟨(p : Int), (q : Int), 0⟩) : chT ts 2 at_ (n + 1) at_ = .node (.node (trF ts n a) (trF ts n p)) (trF ts n q) := by
  conv => lhs; unfold chT
  rw [h]
  simp [lf_inner, h2]
theorem chT_s {at_ n a b : Nat} (h : ts[at_]? = some ⟨(a : Int), (b : Int), 0⟩) : chT ts 3 at_ (n + 1) at_ = .node (chT ts 3 at_ n b) (chT ts 3 at_ n a) := by
  conv => lhs; unfold chT
  rw [h]
  simp [lf_inner]
theorem trF_node {n i a b : Nat} (h : ts[i]? = some ⟨(a : Int), (b : Int), 0⟩) : trF ts (n + 1) i = .node (trF ts n a) (trF ts n b) := by
  conv => lhs; unfold trF
  rw [h]
  simp [lf_inner]
theorem trF_leaf {n i : Nat} {v : Int} (h : ts[i]? = some ⟨-1, -1, v⟩) (h1 : 1 ≤ v) (h2 : v ≤ 128) : trF ts (n + 1) i = .leaf v := by
  conv => lhs; unfold trF
  rw [h]
  simp [lf_leaf h1 h2]
theorem trF_more (hV : Val ts) {n m j : Nat} (h1 : j < n) (h2 : j < m) (hj : j < ts.length) : trF ts n j = trF ts m j := by
  obtain ⟨T, vs, h⟩ := At.exists_ hV (j + 1) j (by omega) hj
  rw [h.tr hV n h1, h.tr hV m h2]
/-- The walk up to the turned node: f is as it was but at at and low. -/
theorem mv_up (hV : Val ts) {kind at_ low a b : Nat} {f : Nat → Nat → Nat → Nat × Nat} (hat : ts[at_]? = some ⟨(a : Int), (b : Int), 0⟩) (hl : low = a ∨ low = b) (hf : ∀ k a b, k ≠ at_ → k ≠ low → f k a b = (a, b))
    (hcase : ∀ n, at_ < n → (∃ vs, At ts f at_ (chT ts kind at_ n at_) vs) ∧ (chT ts kind at_ n at_).size = (trF ts n at_).size) :
    ∀ n i, i < n → i < ts.length → (i ≠ low → ∃ vs, At ts f i (chT ts kind at_ n i) vs) ∧ (chT ts kind at_ n i).size = (trF ts n i).size
  | 0, _, h, _ => absurd h (Nat.not_lt_zero _)
  | n + 1, i, h, hi => by
    by_cases e : i = at_
    · subst e
      have := hcase (n + 1) h
      exact ⟨fun _ => this.1, this.2⟩
    · rcases hV.kind i _ (List.getElem?_eq_getElem hi) with ⟨v, hx, h1, h2⟩ | ⟨c, d, hx, hc, hd, hcd⟩
      · have hg : ts[i]? = some ⟨-1, -1, v⟩ := by rw [List.getElem?_eq_getElem hi, hx]
        rw [chT_leaf hg h1 h2, trF_leaf hg h1 h2]
        exact ⟨fun _ => ⟨_, .leaf hg h1 h2⟩, rfl⟩
      · have hg : ts[i]? = some ⟨(c : Int), (d : Int), 0⟩ := by rw [List.getElem?_eq_getElem hi, hx]
        rw [chT_node hg e, trF_node hg]
        obtain ⟨h1, h2⟩ := mv_up hV hat hl hf hcase n c (by omega) (by omega)
        obtain ⟨h3, h4⟩ := mv_up hV hat hl hf hcase n d (by omega) (by omega)
        refine ⟨fun hne => ?_, by simp only [Tr.size, h2, h4]⟩
        have hcl : c ≠ low := by
          rintro rfl
          exact e (hV.up i at_ c d a b c hg hat (.inl rfl) hl)
        have hdl : d ≠ low := by
          rintro rfl
          exact e (hV.up i at_ c d a b d hg hat (.inr rfl) hl)
        obtain ⟨va, hA⟩ := h1 hcl
        obtain ⟨vb, hB⟩ := h3 hdl
        exact ⟨_, .node hg (hf i c d e hne) hA hB⟩
theorem mv_r (hV : Val ts) {at_ a b p q : Nat} (hat : ts[at_]? = some ⟨(a : Int), (b : Int), 0⟩) (hlow : ts[a]? = some ⟨(p : Int), (q : Int), 0⟩) (n : Nat) (hn : at_ < n) :
    (∃ vs, At ts (fR at_ a p q b) at_ (chT ts 1 at_ n at_) vs) ∧ (chT ts 1 at_ n at_).size = (trF ts n at_).size := by
  obtain ⟨n, rfl⟩ : ∃ m, n = m + 1 := ⟨n - 1, by omega⟩
  obtain ⟨h1, h2, h3, h4⟩ := hV.in_ hat
  obtain ⟨h5, h6, h7, h8⟩ := hV.in_ hlow
  obtain ⟨vp, hp⟩ := At.get hV (n := n) (j := p) (by omega) (by omega)
  obtain ⟨vq, hq⟩ := At.get hV (n := n) (j := q) (by omega) (by omega)
  obtain ⟨vb, hb⟩ := At.get hV (n := n) (j := b) (by omega) (by omega)
  have kp : ∀ {j : Nat} {T : Tr} {vs : List Nat}, At ts idF j T vs → j < at_ → j ≠ a → At ts (fR at_ a p q b) j T vs := fun h hj hne => h.keep fun k hk c d => by
    obtain ⟨q1, q2⟩ := h.below_ hV hat (.inl rfl) hj hne k hk
    simp [fR, q1, q2]
  have fa : fR at_ a p q b a p q = (q, b) := by simp [fR, show a ≠ at_ by omega]
  have ft : fR at_ a p q b at_ a b = (p, a) := by simp [fR]
  refine ⟨⟨_, by rw [chT_r hat hlow]; exact .node hat ft (kp hp (by omega) (by omega)) (.node hlow fa (kp hq (by omega) (by omega)) (kp hb (by omega) (by omega)))⟩, ?_⟩
  obtain ⟨m, rfl⟩ : ∃ m, n = m + 1 := ⟨n - 1, by omega⟩
  rw [chT_r hat hlow, trF_node hat, trF_node hlow, trF_more hV (n := m + 1) (m := m) (j := p) (by omega) (by omega) (by omega), trF_more hV (n := m + 1) (m := m) (j := q) (by omega) (by omega) (by omega)]
  simp only [Tr.size]; omega
theorem mv_l (hV : Val ts) {at_ a b p q : Nat} (hat : ts[at_]? = some ⟨(a : Int), (b : Int), 0⟩) (hlow : ts[b]? = some ⟨(p : Int), (q : Int), 0⟩) (n : Nat) (hn : at_ < n) :
    (∃ vs, At ts (fL at_ b p q a) at_ (chT ts 2 at_ n at_) vs) ∧ (chT ts 2 at_ n at_).size = (trF ts n at_).size := by
  obtain ⟨n, rfl⟩ : ∃ m, n = m + 1 := ⟨n - 1, by omega⟩
  obtain ⟨h1, h2, h3, h4⟩ := hV.in_ hat
  obtain ⟨h5, h6, h7, h8⟩ := hV.in_ hlow
  obtain ⟨vp, hp⟩ := At.get hV (n := n) (j := p) (by omega) (by omega)
  obtain ⟨vq, hq⟩ := At.get hV (n := n) (j := q) (by omega) (by omega)
  obtain ⟨va, ha⟩ := At.get hV (n := n) (j := a) (by omega) (by omega)
  have kp : ∀ {j : Nat} {T : Tr} {vs : List Nat}, At ts idF j T vs → j < at_ → j ≠ b → At ts (fL at_ b p q a) j T vs := fun h hj hne => h.keep fun k hk c d => by
    obtain ⟨q1, q2⟩ := h.below_ hV hat (.inr rfl) hj hne k hk
    simp [fL, q1, q2]
  have fb : fL at_ b p q a b p q = (a, p) := by simp [fL, show b ≠ at_ by omega]
  have ft : fL at_ b p q a at_ a b = (b, q) := by simp [fL]
  refine ⟨⟨_, by rw [chT_l hat hlow]; exact .node hat ft (.node hlow fb (kp ha (by omega) (by omega)) (kp hp (by omega) (by omega))) (kp hq (by omega) (by omega))⟩, ?_⟩
  obtain ⟨m, rfl⟩ : ∃ m, n = m + 1 := ⟨n - 1, by omega⟩
  rw [chT_l hat hlow, trF_node hat, trF_node hlow, trF_more hV (n := m + 1) (m := m) (j := p) (by omega) (by omega) (by omega), trF_more hV (n := m + 1) (m := m) (j := q) (by omega) (by omega) (by omega)]
  simp only [Tr.size]; omega
/-- Below the turned node nothing is turned. -/
theorem chT_low (hV : Val ts) {kind at_ : Nat} : ∀ n i, i < n → i < ts.length → i < at_ → chT ts kind at_ n i = trF ts n i
  | 0, _, h, _, _ => absurd h (Nat.not_lt_zero _)
  | n + 1, i, h, hi, hlt => by
    rcases hV.kind i _ (List.getElem?_eq_getElem hi) with ⟨v, hx, h1, h2⟩ | ⟨c, d, hx, hc, hd, hcd⟩
    · have hg : ts[i]? = some ⟨-1, -1, v⟩ := by rw [List.getElem?_eq_getElem hi, hx]
      rw [chT_leaf hg h1 h2, trF_leaf hg h1 h2]
    · have hg : ts[i]? = some ⟨(c : Int), (d : Int), 0⟩ := by rw [List.getElem?_eq_getElem hi, hx]
      rw [chT_node hg (by omega), trF_node hg, chT_low hV n c (by omega) (by omega) (by omega), chT_low hV n d (by omega) (by omega) (by omega)]
theorem mv_s (hV : Val ts) {at_ a b : Nat} (hat : ts[at_]? = some ⟨(a : Int), (b : Int), 0⟩) (n : Nat) (hn : at_ < n) :
    (∃ vs, At ts (fS at_) at_ (chT ts 3 at_ n at_) vs) ∧ (chT ts 3 at_ n at_).size = (trF ts n at_).size := by
  obtain ⟨n, rfl⟩ : ∃ m, n = m + 1 := ⟨n - 1, by omega⟩
  obtain ⟨h1, h2, h3, h4⟩ := hV.in_ hat
  obtain ⟨va, ha⟩ := At.get hV (n := n) (j := a) (by omega) (by omega)
  obtain ⟨vb, hb⟩ := At.get hV (n := n) (j := b) (by omega) (by omega)
  have kp : ∀ {j : Nat} {T : Tr} {vs : List Nat}, At ts idF j T vs → j < at_ → At ts (fS at_) j T vs := fun h hj => h.keep fun k hk c d => by
    have := h.le hV k hk
    simp [fS, show k ≠ at_ by omega]
  have ft : fS at_ at_ a b = (b, a) := by simp [fS]
  rw [chT_s hat, chT_low hV n a (by omega) (by omega) (by omega), chT_low hV n b (by omega) (by omega) (by omega), trF_node hat]
  exact ⟨⟨_, .node hat ft (kp hb (by omega)) (kp ha (by omega))⟩, by simp only [Tr.size]; omega⟩
theorem mv_root (hV : Val ts) {kind at_ low a b : Nat} {f : Nat → Nat → Nat → Nat × Nat} (hat : ts[at_]? = some ⟨(a : Int), (b : Int), 0⟩) (hl : low = a ∨ low = b) (hf : ∀ k a b, k ≠ at_ → k ≠ low → f k a b = (a, b))
    (hcase : ∀ n, at_ < n → (∃ vs, At ts f at_ (chT ts kind at_ n at_) vs) ∧ (chT ts kind at_ n at_).size = (trF ts n at_).size) :
    (∃ vs, At ts f (ts.length - 1) (chT ts kind at_ ts.length (ts.length - 1)) vs) ∧ (chT ts kind at_ ts.length (ts.length - 1)).size ≤ ts.length := by
  have hp := hV.pos
  obtain ⟨h1, h2, h3, h4⟩ := hV.in_ hat
  obtain ⟨h5, h6⟩ := mv_up hV hat hl hf hcase ts.length (ts.length - 1) (by omega) (by omega)
  refine ⟨h5 (by omega), ?_⟩
  obtain ⟨vs, h⟩ := At.get hV (n := ts.length) (j := ts.length - 1) (by omega) (by omega)
  rw [h6]
  exact h.small hV
theorem mvR (hV : Val ts) {at_ a b p q : Nat} (hat : ts[at_]? = some ⟨(a : Int), (b : Int), 0⟩) (hlow : ts[a]? = some ⟨(p : Int), (q : Int), 0⟩) :
    (∃ vs, At ts (fR at_ a p q b) (ts.length - 1) (chT ts 1 at_ ts.length (ts.length - 1)) vs) ∧ (chT ts 1 at_ ts.length (ts.length - 1)).size ≤ ts.length :=
  mv_root hV hat (.inl rfl) (fun k c d h1 h2 => by simp [fR, h1, h2]) (mv_r hV hat hlow)
theorem mvL (hV : Val ts) {at_ a b p q : Nat} (hat : ts[at_]? = some ⟨(a : Int), (b : Int), 0⟩) (hlow : ts[b]? = some ⟨(p : Int), (q : Int), 0⟩) :
    (∃ vs, At ts (fL at_ b p q a) (ts.length - 1) (chT ts 2 at_ ts.length (ts.length - 1)) vs) ∧ (chT ts 2 at_ ts.length (ts.length - 1)).size ≤ ts.length :=
  mv_root hV hat (.inr rfl) (fun k c d h1 h2 => by simp [fL, h1, h2]) (mv_l hV hat hlow)
theorem mvS (hV : Val ts) {at_ a b : Nat} (hat : ts[at_]? = some ⟨(a : Int), (b : Int), 0⟩) :
    (∃ vs, At ts (fS at_) (ts.length - 1) (chT ts 3 at_ ts.length (ts.length - 1)) vs) ∧ (chT ts 3 at_ ts.length (ts.length - 1)).size ≤ ts.length :=
  mv_root hV hat (.inl rfl) (fun k c d h1 _ => by simp [fS, h1]) (mv_s hV hat)
theorem inner_nat (hV : Val ts) {a : Nat} (h : innerB ts (a : Int) = true) : ∃ p q : Nat, ts[a]? = some ⟨(p : Int), (q : Int), 0⟩ := by
  unfold innerB at h
  simp only [Bool.and_eq_true, decide_eq_true_eq, Int.toNat_natCast] at h
  cases hx : ts[a]? with
  | none => rw [hx] at h; simp at h
  | some x =>
    rw [hx] at h
    rcases hV.kind a x hx with ⟨v, rfl, h1, h2⟩ | ⟨p, q, rfl, _⟩
    · simp [lf_leaf h1 h2] at h
    · exact ⟨p, q, rfl⟩
theorem inner_get (hV : Val ts) {i : Int} (h : innerB ts i = true) : ∃ k a b : Nat, i = (k : Int) ∧ ts[k]? = some ⟨(a : Int), (b : Int), 0⟩ := by
  have h0 : 0 ≤ i := by
    unfold innerB at h
    simp only [Bool.and_eq_true, decide_eq_true_eq] at h
    exact h.1
  obtain ⟨k, rfl⟩ : ∃ n : Nat, i = n := ⟨i.toNat, by omega⟩
  obtain ⟨a, b, h⟩ := inner_nat hV h
  exact ⟨k, a, b, rfl, h⟩
theorem child_at {kind k a b : Nat} (h : ts[k]? = some ⟨(a : Int), (b : Int), 0⟩) : childOf ts kind (k : Int) = if kind = 1 then (a : Int) else (b : Int) := by
  unfold childOf
  rw [Int.toNat_natCast, h]
theorem mov_no {kind : Nat} {i : Int} (h : canB ts kind i = false) : movOf ts kind i = ([], 1) := by unfold movOf; rw [h]; rfl
theorem mov_yes {kind k : Nat} (h : canB ts kind (k : Int) = true) : movOf ts kind (k : Int) = (post (chT ts kind k ts.length (ts.length - 1)) 0, 0) := by unfold movOf; rw [h, Int.toNat_natCast]; rfl
end
end Go.Proofs.YtpeoodkepjhhiaaDoor
namespace Go.Proofs.YtpeoodkepjhhiaaDoor

/-- The parent of k among the first m nodes, or d. -/
def parTo (ts : List VN) (d : Int) : Nat → Nat → Int
  | 0, _ => d
  | m + 1, k => match ts[m]? with
    | none => parTo ts d m k
    | some x => if !lf x && (decide (x.l = k) || decide (x.r = k)) then (m : Int) else parTo ts d m k
def parsOf (ts : List VN) : List Int := (List.range ts.length).map fun k => parTo ts (-1) ts.length k
def parentsOf (ts : List VN) : List Int := if okT ts then parsOf ts else []
/-- The program's list behind i nodes. -/
def upAt (ts : List VN) (i : Nat) : List Int := (List.range ts.length).map fun k => if k < i then parTo ts (-1) i k else 0
/-- The reference's. -/
def upAtR (ts : List VN) (i : Nat) : List Int := (List.range ts.length).map fun k => if k = ts.length - 1 then -1 else parTo ts 0 i k
theorem parsOf_len (ts : List VN) : (parsOf ts).length = ts.length := by simp [parsOf]
theorem upAt_len (ts : List VN) (i : Nat) : (upAt ts i).length = ts.length := by simp [upAt]
theorem upAtR_len (ts : List VN) (i : Nat) : (upAtR ts i).length = ts.length := by simp [upAtR]
section
variable {ts : List VN}
theorem parTo_leaf {d : Int} {m k : Nat} {v : Int} (h : ts[m]? = some ⟨-1, -1, v⟩) (h1 : 1 ≤ v) (h2 : v ≤ 128) : parTo ts d (m + 1) k = parTo ts d m k := by
  conv => lhs; unfold parTo
  rw [h]
  simp [lf_leaf h1 h2]
theorem parTo_node {d : Int} {m k a b : Nat} (h : ts[m]? = some ⟨(a : Int), (b : Int), 0⟩) : parTo ts d (m + 1) k = if a = k ∨ b = k then (m : Int) else parTo ts d m k := by
  conv => lhs; unfold parTo
  rw [h]
  by_cases h1 : a = k
  · simp [lf_inner, h1]
  · by_cases h2 : b = k
    · simp [lf_inner, h2]
    · have h3 : ¬ ((a : Int) = (k : Int)) := by omega
      have h4 : ¬ ((b : Int) = (k : Int)) := by omega
      simp [h1, h2, h3, h4]
/-- No node up to its own has a node as a child. -/
theorem parTo_self (hV : Val ts) {d : Int} : ∀ (m k : Nat), m ≤ ts.length → m ≤ k + 1 → parTo ts d m k = d
  | 0, _, _, _ => rfl
  | m + 1, k, hm, hk => by
    rcases hV.kind m _ (List.getElem?_eq_getElem (show m < ts.length by omega)) with ⟨v, hx, h1, h2⟩ | ⟨a, b, hx, ha, hb, _⟩
    · rw [parTo_leaf (by rw [List.getElem?_eq_getElem (show m < ts.length by omega), hx]) h1 h2]
      exact parTo_self hV m k (by omega) (by omega)
    · rw [parTo_node (by rw [List.getElem?_eq_getElem (show m < ts.length by omega), hx]), if_neg (by omega)]
      exact parTo_self hV m k (by omega) (by omega)
theorem parTo_d (hV : Val ts) (d d' : Int) (k : Nat) : ∀ m, m ≤ ts.length → (∃ p a b : Nat, p < m ∧ ts[p]? = some ⟨(a : Int), (b : Int), 0⟩ ∧ (k = a ∨ k = b)) → parTo ts d m k = parTo ts d' m k
  | 0, _, ⟨p, _, _, h, _⟩ => absurd h (Nat.not_lt_zero _)
  | m + 1, hm, ⟨p, a, b, hp, hx, hk⟩ => by
    rcases hV.kind m _ (List.getElem?_eq_getElem (show m < ts.length by omega)) with ⟨v, hy, h1, h2⟩ | ⟨c, e, hy, hc, he, _⟩
    · have hg : ts[m]? = some ⟨-1, -1, v⟩ := by rw [List.getElem?_eq_getElem (show m < ts.length by omega), hy]
      rw [parTo_leaf hg h1 h2, parTo_leaf hg h1 h2]
      refine parTo_d hV d d' k m (by omega) ⟨p, a, b, ?_, hx, hk⟩
      rcases Nat.lt_succ_iff_lt_or_eq.1 hp with h | rfl
      · exact h
      · rw [hx] at hg; injection hg with hg; injection hg with hg _ _; omega
    · have hg : ts[m]? = some ⟨(c : Int), (e : Int), 0⟩ := by rw [List.getElem?_eq_getElem (show m < ts.length by omega), hy]
      rw [parTo_node hg, parTo_node hg]
      by_cases hce : c = k ∨ e = k
      · rw [if_pos hce, if_pos hce]
      · rw [if_neg hce, if_neg hce]
        refine parTo_d hV d d' k m (by omega) ⟨p, a, b, ?_, hx, hk⟩
        rcases Nat.lt_succ_iff_lt_or_eq.1 hp with h | rfl
        · exact h
        · rw [hx] at hg; injection hg with hg; injection hg with h1 h2 _; omega
theorem parTo_is (hV : Val ts) {d : Int} {p a b k : Nat} (hx : ts[p]? = some ⟨(a : Int), (b : Int), 0⟩) (hk : k = a ∨ k = b) : ∀ m, p < m → m ≤ ts.length → parTo ts d m k = (p : Int)
  | 0, h, _ => absurd h (Nat.not_lt_zero _)
  | m + 1, h, hm => by
    rcases hV.kind m _ (List.getElem?_eq_getElem (show m < ts.length by omega)) with ⟨v, hy, h1, h2⟩ | ⟨c, e, hy, hc, he, _⟩
    · have hg : ts[m]? = some ⟨-1, -1, v⟩ := by rw [List.getElem?_eq_getElem (show m < ts.length by omega), hy]
      rw [parTo_leaf hg h1 h2]
      refine parTo_is hV hx hk m ?_ (by omega)
      rcases Nat.lt_succ_iff_lt_or_eq.1 h with h | rfl
      · exact h
      · rw [hx] at hg; injection hg with hg; injection hg with hg _ _; omega
    · have hg : ts[m]? = some ⟨(c : Int), (e : Int), 0⟩ := by rw [List.getElem?_eq_getElem (show m < ts.length by omega), hy]
      rw [parTo_node hg]
      by_cases hce : c = k ∨ e = k
      · rw [if_pos hce]
        rw [hV.up p m a b c e k hx hg hk (by omega)]
      · rw [if_neg hce]
        refine parTo_is hV hx hk m ?_ (by omega)
        rcases Nat.lt_succ_iff_lt_or_eq.1 h with h | rfl
        · exact h
        · rw [hx] at hg; injection hg with hg; injection hg with h1 h2 _; omega
/-- Every node but the last has a parent, and it lies behind it. -/
theorem par_get (hV : Val ts) {k : Nat} (hk : k < ts.length - 1) : ∃ p a b : Nat, ts[p]? = some ⟨(a : Int), (b : Int), 0⟩ ∧ (k = a ∨ k = b) ∧ k < p ∧ p < ts.length ∧ (parsOf ts)[k]? = some (p : Int) := by
  obtain ⟨p, a, b, hx, hkk⟩ := hV.cover k hk
  obtain ⟨h1, h2, _, h3⟩ := hV.in_ hx
  refine ⟨p, a, b, hx, hkk, by omega, h3, ?_⟩
  simp [parsOf, show k < ts.length by omega, parTo_is hV hx hkk ts.length h3 (Nat.le_refl _)]
theorem par_last (hV : Val ts) : (parsOf ts)[ts.length - 1]? = some (-1) := by
  have := hV.pos
  simp [parsOf, show ts.length - 1 < ts.length by omega, parTo_self hV ts.length (ts.length - 1) (Nat.le_refl _) (by omega)]
/-- The program's step. -/
theorem upAt_zero (ts : List VN) : upAt ts 0 = List.replicate ts.length 0 := by
  apply List.ext_getElem?
  intro k
  by_cases h : k < ts.length <;> simp [upAt, h]
theorem upAt_leaf (hV : Val ts) {i : Nat} {v : Int} (h : ts[i]? = some ⟨-1, -1, v⟩) (h1 : 1 ≤ v) (h2 : v ≤ 128) : (upAt ts i).set i (-1) = upAt ts (i + 1) := by
  have hi := (List.getElem?_eq_some_iff.1 h).1
  apply List.ext_getElem?
  intro k
  rw [List.getElem?_set]
  by_cases hk : k < ts.length
  · by_cases e : i = k
    · subst e
      simp [upAt, hi, parTo_self hV (i + 1) i (by omega) (by omega)]
    · by_cases hlt : k < i
      · simp [upAt, hk, e, hlt, show k < i + 1 by omega, parTo_leaf h h1 h2]
      · simp [upAt, hk, e, hlt, show ¬ k < i + 1 by omega]
  · simp [upAt, hk]; omega
theorem upAt_node (hV : Val ts) {i a b : Nat} (h : ts[i]? = some ⟨(a : Int), (b : Int), 0⟩) : (((upAt ts i).set i (-1)).set a (i : Int)).set b (i : Int) = upAt ts (i + 1) := by
  obtain ⟨ha, hb, hab, hi⟩ := hV.in_ h
  apply List.ext_getElem?
  intro k
  simp only [List.getElem?_set, List.length_set, upAt_len]
  by_cases hk : k < ts.length
  · by_cases e1 : b = k
    · subst e1
      simp [upAt, hk, show b < i + 1 by omega, parTo_node h]
    · by_cases e2 : a = k
      · subst e2
        simp [upAt, hk, e1, show a < i + 1 by omega, parTo_node h]
      · by_cases e : i = k
        · subst e
          simp [upAt, hi, e1, e2, parTo_self hV (i + 1) i (by omega) (by omega)]
        · by_cases hlt : k < i
          · simp [upAt, hk, e, e1, e2, hlt, show k < i + 1 by omega, parTo_node h]
          · simp [upAt, hk, e, e1, e2, hlt, show ¬ k < i + 1 by omega]
  · simp [upAt, hk, show ¬ b = k by omega, show ¬ a = k by omega, show ¬ i = k by omega]
theorem upAt_all (ts : List VN) : upAt ts ts.length = parsOf ts := by
  apply List.ext_getElem?
  intro k
  by_cases h : k < ts.length <;> simp [upAt, parsOf, h]
/-- The reference's step. -/
theorem upAtR_zero (hV : Val ts) : (List.replicate ts.length (0 : Int)).set (ts.length - 1) (-1) = upAtR ts 0 := by
  have := hV.pos
  apply List.ext_getElem?
  intro k
  rw [List.getElem?_set]
  by_cases h : k < ts.length
  · by_cases e : ts.length - 1 = k
    · subst e
      simp [upAtR, h]
    · simp [upAtR, h, e, show ¬ k = ts.length - 1 by omega, parTo]
  · simp [upAtR, h]; omega
theorem upAtR_leaf {i : Nat} {v : Int} (h : ts[i]? = some ⟨-1, -1, v⟩) (h1 : 1 ≤ v) (h2 : v ≤ 128) : upAtR ts i = upAtR ts (i + 1) := by
  unfold upAtR
  refine List.map_congr_left fun k _ => ?_
  rw [parTo_leaf h h1 h2]
theorem upAtR_node (hV : Val ts) {i a b : Nat} (h : ts[i]? = some ⟨(a : Int), (b : Int), 0⟩) : ((upAtR ts i).set a (i : Int)).set b (i : Int) = upAtR ts (i + 1) := by
  obtain ⟨ha, hb, hab, hi⟩ := hV.in_ h
  apply List.ext_getElem?
  intro k
  simp only [List.getElem?_set, List.length_set, upAtR_len]
  by_cases hk : k < ts.length
  · by_cases e1 : b = k
    · subst e1
      simp [upAtR, hk, show ¬ b = ts.length - 1 by omega, parTo_node h]
    · by_cases e2 : a = k
      · subst e2
        simp [upAtR, hk, e1, show ¬ a = ts.length - 1 by omega, parTo_node h]
      · by_cases e : k = ts.length - 1
        · subst e
          simp [upAtR, hk, e1, e2]
        · simp [upAtR, hk, e, e1, e2, parTo_node h]
  · simp [upAtR, hk, show ¬ b = k by omega, show ¬ a = k by omega]
theorem upAtR_all (hV : Val ts) : upAtR ts ts.length = parsOf ts := by
  unfold upAtR parsOf
  refine List.map_congr_left fun k hk => ?_
  have hk := List.mem_range.1 hk
  by_cases e : k = ts.length - 1
  · rw [if_pos e, e, parTo_self hV ts.length (ts.length - 1) (Nat.le_refl _) (by omega)]
  · rw [if_neg e]
    obtain ⟨p, a, b, hx, hkk⟩ := hV.cover k (by omega)
    exact parTo_d hV 0 (-1) k ts.length (Nat.le_refl _) ⟨p, a, b, (hV.in_ hx).2.2.2, hx, hkk⟩
end
/-- Where two nodes meet. -/
def climb (u : List Int) : Nat → Nat → Nat → Nat
  | 0, a, _ => a
  | n + 1, a, b => if a = b then a else if a < b then climb u n (u.getD a 0).toNat b else climb u n a (u.getD b 0).toNat
def meetOf (ts : List VN) (a b : Int) : Int := if okT ts && decide (0 ≤ a) && decide (a < ts.length) && decide (0 ≤ b) && decide (b < ts.length) then (climb (parsOf ts) (2 * ts.length) a.toNat b.toNat : Int) else -1
theorem climb_eq (u : List Int) : ∀ (n a : Nat), climb u n a a = a
  | 0, _ => rfl
  | n + 1, a => by unfold climb; rw [if_pos rfl]
end Go.Proofs.YtpeoodkepjhhiaaDoor
namespace Go.Proofs.YtpeoodkepjhhiaaDoor
open Go Go.RowKit
theorem checkb_ {W : World} {D : Nat → Prop} {V : Value} {ts : List VN} (hN : NodesD D W V ts) (hD : ∀ k, D k → k < W.heap.size) {r : Int} (h : chkV ts = r) : Calls Tryd.prog 23 #[V] W fun e w' => e = .returned (.int .i64 r) ∧ Below W.heap.size W w' := h ▸ check_ hN hD
theorem chk_val {ts : List VN} {b : Bool} (h : okT ts = b) : chkV ts = if b then 0 else 1 := by unfold chkV; rw [h]
theorem parents_ok {W : World} {D : Nat → Prop} {b o c : Nat} {ts : List VN} (hN : NodesD D W (.slice (some ⟨b, o, none⟩) ts.length c) ts) (hD : ∀ k, D k → k < W.heap.size) (hok : okT ts = true) :
    Calls Tryd.prog 31 #[.slice (some ⟨b, o, none⟩) ts.length c] W fun e w' => ∃ g c', e = .returned (.slice (some ⟨g, 0, none⟩) ts.length c') ∧ Own Z0 W w' [.row (.slice (some ⟨g, 0, none⟩) ts.length c') 3 1 ts.length (intCs (parsOf ts))] := by
  have hV := okT_val hok
  have hpos := hV.pos
  have hle := hV.le
  have O0 : Own Z0 W W [.ro D (fun w => NodesD D w (.slice (some ⟨b, o, none⟩) ts.length c) ts)] := (Own.start W).oldro (D := D) (p := (fun w => NodesD D w (.slice (some ⟨b, o, none⟩) ts.length c) ts)) (nodesE_holds hN hD)
  refine sx_enter (args := [.slice (some ⟨b, o, none⟩) ts.length c]) Tryd.func31 rfl rfl (by simp) ?_
  refine cw_seq (fun FK1 K1 => ?_)
  refine cw_region ?_
  refine wl_val (v := .slice none 0 0) (fun ρ e => ex_assign (e _ _ rfl)) rfl rfl ?_
  refine wl_nil ?_
  refine xw_next K1 ?_
  refine cw_seq (fun FK2 K2 => ?_)
  refine cw_seq (fun FK3 K3 => ?_)
  refine cw_region ?_
  refine wl_val (v := .slice (some ⟨b, o, none⟩) ts.length c) (fun ρ e => ex_move (e _ _ rfl)) rfl rfl ?_
  refine wl_call (args := [.slice (some ⟨b, o, none⟩) ts.length c]) in_23 rfl rfl rfl ?_
  refine (checkb_ (hN.move (fun k hk => (O0.old).block k (hD k hk))) (fun k hk => Nat.lt_of_lt_of_le (hD k hk) (O0.old).size) (chk_val hok)).mono ?_
  rintro _ w4 ⟨rfl, hb5⟩
  have O6 : Own Z0 W w4 [.ro D (fun w => NodesD D w (.slice (some ⟨b, o, none⟩) ts.length c) ts)] := O0.below hb5
  refine ⟨_, rfl, ?_⟩
  refine wl_val (v := .bool false) (fun ρ e => ex_cmp (u := 0) (v := 0) (e _ _ rfl) (e _ _ rfl) (neq0 (by omega))) rfl rfl ?_
  refine wl_nil ?_
  refine xw_next K3 ?_
  refine cw_false rfl ?_
  refine cw_skip ?_
  refine xw_next K2 ?_
  refine cw_seq (fun FK7 K7 => ?_)
  refine cw_region ?_
  refine wl_val (v := .slice (some ⟨b, o, none⟩) ts.length c) (fun ρ e => ex_move (e _ _ rfl)) rfl rfl ?_
  refine wl_val (v := .int .i64 ((ts.length : Nat) : Int)) (fun ρ e => ex_len el23 (e _ _ rfl)) rfl rfl ?_
  obtain ⟨g8, w9, r10, O11, hg12, hs13⟩ := own_make1 O6 ap36 rfl ts.length (by decide) (by omega) (cs := (intCs (upAt ts 0)).toArray) (by rw [upAt_zero]; simp [intCs])
  refine wl_val (v := .slice (some ⟨g8, 0, none⟩) ts.length ts.length) (fun ρ e => r10 ρ _ _ _ _ _ _ _ (e _ _ rfl) (e _ _ rfl)) rfl rfl ?_
  refine wl_val (v := .slice (some ⟨g8, 0, none⟩) ts.length ts.length) (fun ρ e => ex_assign (e _ _ rfl)) rfl rfl ?_
  refine wl_nil ?_
  refine xw_next K7 ?_
  refine cw_seq (fun FK14 K14 => ?_)
  refine cw_seq (fun FK15 K15 => ?_)
  refine cw_region ?_
  refine wl_val (v := .slice (some ⟨b, o, none⟩) ts.length c) (fun ρ e => ex_move (e _ _ rfl)) rfl rfl ?_
  refine wl_val (v := .int .i64 ((ts.length : Nat) : Int)) (fun ρ e => ex_len el23 (e _ _ rfl)) rfl rfl ?_
  refine wl_val (v := .int .i64 0) (fun ρ e => ex_move (e _ _ rfl)) rfl rfl ?_
  refine wl_nil ?_
  refine xw_next K15 ?_
  refine cw_block ?_
  have O16 : Own Z0 W w9 [.blk g8 3 ((intCs (upAt ts 0)).toArray), .ro D (fun w => NodesD D w (.slice (some ⟨b, o, none⟩) ts.length c) ts)] := O11
  refine cw_loop (ι := Nat) (fun q => [(3, .slice (some ⟨g8, 0, none⟩) ts.length ts.length), (12, .slice (some ⟨b, o, none⟩) ts.length c), (13, .int .i64 ((ts.length : Nat) : Int)), (14, .int .i64 (q : Int))]) (fun q X => (q ≤ ts.length) ∧ Own Z0 W X [.blk g8 3 ((intCs (upAt ts q)).toArray), .ro D (fun w => NodesD D w (.slice (some ⟨b, o, none⟩) ts.length c) ts)]) (fun q => ts.length - q) 0 ⟨Nat.zero_le _, O16⟩ ⟨rfl, rfl, rfl, rfl, trivial⟩ (fun q w17 hJ F18 K19 => ?_)
  obtain ⟨i, rfl⟩ : ∃ x, x = q := ⟨_, rfl⟩
  obtain ⟨hi0, O20⟩ := hJ
  try dsimp only at hi0 O20 ⊢
  by_cases hi : i < ts.length
  · skip
    rcases hV.kind i _ (List.getElem?_eq_getElem hi) with ⟨v, hx0, h1, h2⟩ | ⟨a, b2, hx0, ha, hb, hab⟩
    · skip
      have hx : ts[i]? = some ⟨-1, -1, v⟩ := by rw [List.getElem?_eq_getElem hi, hx0]
      have hlf : (!(lf (VN.mk (-1) (-1) v))) = false := by rw [lf_leaf h1 h2]; rfl
      refine cw_seq (fun FK21 K21 => ?_)
      refine cw_region ?_
      refine wl_val (v := .bool true) (fun ρ e => ex_cmp (u := (i : Int)) (v := ((ts.length : Nat) : Int)) (e _ _ rfl) (e _ _ rfl) (lss1 (by omega))) rfl rfl ?_
      refine wl_nil ?_
      refine xw_next K21 ?_
      refine cw_seq (fun FK22 K22 => ?_)
      refine cw_true rfl ?_
      refine cw_skip ?_
      refine xw_next K22 ?_
      refine cw_seq (fun FK23 K23 => ?_)
      refine cw_block ?_
      refine cw_seq (fun FK24 K24 => ?_)
      refine cw_region ?_
      refine wl_val (v := .int .i64 (i : Int)) (fun ρ e => ex_move (e _ _ rfl)) rfl rfl ?_
      refine wl_val (v := .pointer (some ⟨b, o + i * 3, none⟩)) (fun ρ e => ex_idx (q := o + i * 3) (i := i) el23 (e _ _ rfl) (e _ _ rfl) (by omega) (by omega)) rfl rfl ?_
      refine wl_val (v := .agg #[.int .i64 (-1), .int .i64 (-1), .int .i64 v]) (fun ρ e => ex_loadN (vs := [.int .i64 (-1), .int .i64 (-1), .int .i64 v]) ty38 (e _ _ rfl) rfl (cells3 (NodesD.c0 ((O20.ro 1 rfl : (fun w => NodesD D w (.slice (some ⟨b, o, none⟩) ts.length c) ts) _) : NodesD _ _ _ _) hx) (NodesD.c1 ((O20.ro 1 rfl : (fun w => NodesD D w (.slice (some ⟨b, o, none⟩) ts.length c) ts) _) : NodesD _ _ _ _) hx) (NodesD.c2 ((O20.ro 1 rfl : (fun w => NodesD D w (.slice (some ⟨b, o, none⟩) ts.length c) ts) _) : NodesD _ _ _ _) hx))) rfl rfl ?_
      obtain ⟨g25, w26, r27, O28, hg29, hs30⟩ := own_alloc O20 38 ze38 rfl
      refine wl_val (v := .pointer (some ⟨g25, 0, none⟩)) (fun ρ e => r27 ρ _ _ _ _ _) rfl rfl ?_
      refine wl_val (v := .int .i64 (i : Int)) (fun ρ e => ex_assign (e _ _ rfl)) rfl rfl ?_
      obtain ⟨w31, r32, O33, hs34⟩ := own_put (o := 0) (n := 3) O28 ty38 (.agg #[.int .i64 (-1), .int .i64 (-1), .int .i64 v]) [.int .i64 (-1), .int .i64 (-1), .int .i64 v] (cs' := #[.int .i64 (-1), .int .i64 (-1), .int .i64 v]) rfl rfl rfl (Nat.le_of_ble_eq_true rfl) rfl
      refine wl_none (fun ρ e => r32 ρ _ _ _ _ _ _ (e _ _ rfl) (e _ _ rfl)) rfl ?_
      refine wl_nil ?_
      refine xw_next K24 ?_
      refine cw_seq (fun FK35 K35 => ?_)
      refine cw_region ?_
      refine wl_val (v := .slice (some ⟨g8, 0, none⟩) ts.length ts.length) (fun ρ e => ex_move (e _ _ rfl)) rfl rfl ?_
      refine wl_val (v := .int .i64 (i : Int)) (fun ρ e => ex_move (e _ _ rfl)) rfl rfl ?_
      refine wl_val (v := .pointer (some ⟨g8, i, none⟩)) (fun ρ e => ex_idx (q := i) (i := i) el36 (e _ _ rfl) (e _ _ rfl) (by omega) (by omega)) rfl rfl ?_
      obtain ⟨w36, r37, O38, hs39⟩ := own_put (o := i) (n := 1) (O33.re [1, 0, 2] rfl : Own Z0 W w31 [.blk g8 3 ((intCs (upAt ts i)).toArray), .blk g25 38 #[.int .i64 (-1), .int .i64 (-1), .int .i64 v], .ro D (fun w => NodesD D w (.slice (some ⟨b, o, none⟩) ts.length c) ts)]) ty3 (.int .i64 (-1)) [.int .i64 (-1)] (cs' := (intCs ((upAt ts i).set i (-1))).toArray) rfl rfl rfl (by simp [intCs, upAt_len, upAtR_len] <;> omega) (setI _ i (-1))
      refine wl_none (fun ρ e => r37 ρ _ _ _ _ _ _ (e _ _ rfl) (e _ _ rfl)) rfl ?_
      refine wl_nil ?_
      refine xw_next K35 ?_
      refine cw_seq (fun FK40 K40 => ?_)
      refine cw_region ?_
      refine wl_val (v := .agg #[.int .i64 (-1), .int .i64 (-1), .int .i64 v]) (fun ρ e => ex_loadN (vs := [.int .i64 (-1), .int .i64 (-1), .int .i64 v]) ty38 (e _ _ rfl) rfl (O38.cells 1 0 rfl rfl)) rfl rfl ?_
      refine wl_call (args := [.agg #[.int .i64 (-1), .int .i64 (-1), .int .i64 v]]) in_53 rfl rfl rfl ?_
      refine (isleaf_ (VN.mk (-1) (-1) v) (W := w36)).mono ?_
      rintro _ w41 ⟨rfl, hb42⟩
      have O43 : Own Z0 W w41 [.blk g8 3 ((intCs ((upAt ts i).set i (-1))).toArray), .blk g25 38 #[.int .i64 (-1), .int .i64 (-1), .int .i64 v], .ro D (fun w => NodesD D w (.slice (some ⟨b, o, none⟩) ts.length c) ts)] := O38.below hb42
      refine ⟨_, rfl, ?_⟩
      refine wl_val (v := .bool (!(lf (VN.mk (-1) (-1) v)))) (fun ρ e => ex_lnot (b := (lf (VN.mk (-1) (-1) v))) (e _ _ rfl)) rfl rfl ?_
      refine wl_nil ?_
      refine xw_next K40 ?_
      refine cw_false (congrArg (fun b => some (Value.bool b)) hlf) ?_
      refine cw_skip ?_
      refine xw_block ?_
      refine xw_next K23 ?_
      refine cw_region ?_
      refine wl_val (v := .int .i64 ((i + 1 : Nat) : Int)) (fun ρ e => ex_arith (k := .i64) (u := (i : Int)) (v := 1) (e _ _ rfl) (e _ _ rfl) (congrArg some ((congrArg _ (by omega)).trans (wrap_in (u := ((i + 1 : Nat) : Int)) (by omega) (by omega))))) rfl rfl ?_
      refine wl_val (v := .int .i64 ((i + 1 : Nat) : Int)) (fun ρ e => ex_move (e _ _ rfl)) rfl rfl ?_
      refine wl_nil ?_
      have O44 : Own Z0 W w41 [.blk g8 3 ((intCs (upAt ts (i + 1))).toArray), .ro D (fun w => NodesD D w (.slice (some ⟨b, o, none⟩) ts.length c) ts)] := by rw [← upAt_leaf hV hx h1 h2]; exact (O43.re [0, 2] rfl : Own Z0 W w41 [.blk g8 3 ((intCs ((upAt ts i).set i (-1))).toArray), .ro D (fun w => NodesD D w (.slice (some ⟨b, o, none⟩) ts.length c) ts)])
      refine xw_round K19 (i + 1) (by show ts.length - (i + 1) < ts.length - i; omega) ⟨(by show i + 1 ≤ ts.length; omega), O44⟩ ⟨rfl, rfl, rfl, rfl, trivial⟩
    · skip
      have hx : ts[i]? = some ⟨(a : Int), (b2 : Int), 0⟩ := by rw [List.getElem?_eq_getElem hi, hx0]
      have hlf : (!(lf (VN.mk (a : Int) (b2 : Int) 0))) = true := by rw [lf_inner a b2]; rfl
      refine cw_seq (fun FK45 K45 => ?_)
      refine cw_region ?_
      refine wl_val (v := .bool true) (fun ρ e => ex_cmp (u := (i : Int)) (v := ((ts.length : Nat) : Int)) (e _ _ rfl) (e _ _ rfl) (lss1 (by omega))) rfl rfl ?_
      refine wl_nil ?_
      refine xw_next K45 ?_
      refine cw_seq (fun FK46 K46 => ?_)
      refine cw_true rfl ?_
      refine cw_skip ?_
      refine xw_next K46 ?_
      refine cw_seq (fun FK47 K47 => ?_)
      refine cw_block ?_
      refine cw_seq (fun FK48 K48 => ?_)
      refine cw_region ?_
      refine wl_val (v := .int .i64 (i : Int)) (fun ρ e => ex_move (e _ _ rfl)) rfl rfl ?_
      refine wl_val (v := .pointer (some ⟨b, o + i * 3, none⟩)) (fun ρ e => ex_idx (q := o + i * 3) (i := i) el23 (e _ _ rfl) (e _ _ rfl) (by omega) (by omega)) rfl rfl ?_
      refine wl_val (v := .agg #[.int .i64 (a : Int), .int .i64 (b2 : Int), .int .i64 0]) (fun ρ e => ex_loadN (vs := [.int .i64 (a : Int), .int .i64 (b2 : Int), .int .i64 0]) ty38 (e _ _ rfl) rfl (cells3 (NodesD.c0 ((O20.ro 1 rfl : (fun w => NodesD D w (.slice (some ⟨b, o, none⟩) ts.length c) ts) _) : NodesD _ _ _ _) hx) (NodesD.c1 ((O20.ro 1 rfl : (fun w => NodesD D w (.slice (some ⟨b, o, none⟩) ts.length c) ts) _) : NodesD _ _ _ _) hx) (NodesD.c2 ((O20.ro 1 rfl : (fun w => NodesD D w (.slice (some ⟨b, o, none⟩) ts.length c) ts) _) : NodesD _ _ _ _) hx))) rfl rfl ?_
      obtain ⟨g49, w50, r51, O52, hg53, hs54⟩ := own_alloc O20 38 ze38 rfl
      refine wl_val (v := .pointer (some ⟨g49, 0, none⟩)) (fun ρ e => r51 ρ _ _ _ _ _) rfl rfl ?_
      refine wl_val (v := .int .i64 (i : Int)) (fun ρ e => ex_assign (e _ _ rfl)) rfl rfl ?_
      obtain ⟨w55, r56, O57, hs58⟩ := own_put (o := 0) (n := 3) O52 ty38 (.agg #[.int .i64 (a : Int), .int .i64 (b2 : Int), .int .i64 0]) [.int .i64 (a : Int), .int .i64 (b2 : Int), .int .i64 0] (cs' := #[.int .i64 (a : Int), .int .i64 (b2 : Int), .int .i64 0]) rfl rfl rfl (Nat.le_of_ble_eq_true rfl) rfl
      refine wl_none (fun ρ e => r56 ρ _ _ _ _ _ _ (e _ _ rfl) (e _ _ rfl)) rfl ?_
      refine wl_nil ?_
      refine xw_next K48 ?_
      refine cw_seq (fun FK59 K59 => ?_)
      refine cw_region ?_
      refine wl_val (v := .slice (some ⟨g8, 0, none⟩) ts.length ts.length) (fun ρ e => ex_move (e _ _ rfl)) rfl rfl ?_
      refine wl_val (v := .int .i64 (i : Int)) (fun ρ e => ex_move (e _ _ rfl)) rfl rfl ?_
      refine wl_val (v := .pointer (some ⟨g8, i, none⟩)) (fun ρ e => ex_idx (q := i) (i := i) el36 (e _ _ rfl) (e _ _ rfl) (by omega) (by omega)) rfl rfl ?_
      obtain ⟨w60, r61, O62, hs63⟩ := own_put (o := i) (n := 1) (O57.re [1, 0, 2] rfl : Own Z0 W w55 [.blk g8 3 ((intCs (upAt ts i)).toArray), .blk g49 38 #[.int .i64 (a : Int), .int .i64 (b2 : Int), .int .i64 0], .ro D (fun w => NodesD D w (.slice (some ⟨b, o, none⟩) ts.length c) ts)]) ty3 (.int .i64 (-1)) [.int .i64 (-1)] (cs' := (intCs ((upAt ts i).set i (-1))).toArray) rfl rfl rfl (by simp [intCs, upAt_len, upAtR_len] <;> omega) (setI _ i (-1))
      refine wl_none (fun ρ e => r61 ρ _ _ _ _ _ _ (e _ _ rfl) (e _ _ rfl)) rfl ?_
      refine wl_nil ?_
      refine xw_next K59 ?_
      refine cw_seq (fun FK64 K64 => ?_)
      refine cw_region ?_
      refine wl_val (v := .agg #[.int .i64 (a : Int), .int .i64 (b2 : Int), .int .i64 0]) (fun ρ e => ex_loadN (vs := [.int .i64 (a : Int), .int .i64 (b2 : Int), .int .i64 0]) ty38 (e _ _ rfl) rfl (O62.cells 1 0 rfl rfl)) rfl rfl ?_
      refine wl_call (args := [.agg #[.int .i64 (a : Int), .int .i64 (b2 : Int), .int .i64 0]]) in_53 rfl rfl rfl ?_
      refine (isleaf_ (VN.mk (a : Int) (b2 : Int) 0) (W := w60)).mono ?_
      rintro _ w65 ⟨rfl, hb66⟩
      have O67 : Own Z0 W w65 [.blk g8 3 ((intCs ((upAt ts i).set i (-1))).toArray), .blk g49 38 #[.int .i64 (a : Int), .int .i64 (b2 : Int), .int .i64 0], .ro D (fun w => NodesD D w (.slice (some ⟨b, o, none⟩) ts.length c) ts)] := O62.below hb66
      refine ⟨_, rfl, ?_⟩
      refine wl_val (v := .bool (!(lf (VN.mk (a : Int) (b2 : Int) 0)))) (fun ρ e => ex_lnot (b := (lf (VN.mk (a : Int) (b2 : Int) 0))) (e _ _ rfl)) rfl rfl ?_
      refine wl_nil ?_
      refine xw_next K64 ?_
      refine cw_true (congrArg (fun b => some (Value.bool b)) hlf) ?_
      refine cw_drawn (fun X => Own Z0 W X [.blk g49 38 #[.int .i64 (a : Int), .int .i64 (b2 : Int), .int .i64 0], .ro D (fun w => NodesD D w (.slice (some ⟨b, o, none⟩) ts.length c) ts)]) 12 [(0, 1), (1, 1), (2, 0), (3, 1), (4, 1), (5, 0), (6, 1), (7, 1), (8, 1), (9, 2), (10, 1), (11, 2)] (by kernel_rfl) (by kernel_rfl) (PQ.block (PQ.then_ (PQ.then_ (PQ.block (PQ.then_ PQ.body))))) ((O67.re [1, 2] rfl : Own Z0 W w65 [.blk g49 38 #[.int .i64 (a : Int), .int .i64 (b2 : Int), .int .i64 0], .ro D (fun w => NodesD D w (.slice (some ⟨b, o, none⟩) ts.length c) ts)])).drew ?_
      have O68 : Own Z0 W w65.drew [.blk g8 3 ((intCs ((upAt ts i).set i (-1))).toArray), .blk g49 38 #[.int .i64 (a : Int), .int .i64 (b2 : Int), .int .i64 0], .ro D (fun w => NodesD D w (.slice (some ⟨b, o, none⟩) ts.length c) ts)] := O67.drew
      refine wt1 (v := .slice (some ⟨g8, 0, none⟩) ts.length ts.length) rfl (fun ρ e W => ex_move (e _ _ rfl)) rfl rfl ?_
      refine wt1 (v := .pointer (some ⟨g49, 0, none⟩)) rfl (fun ρ e W => ex_field (q := 0) fi38_0 (e _ _ rfl) rfl) rfl rfl ?_
      refine wt0 (v := .int .i64 (a : Int)) rfl (fun ρ e W hW => ex_load1 ty3 (e _ _ rfl) (hW.cell 0 0 rfl rfl)) rfl rfl ?_
      refine wt1 (v := .slice (some ⟨g8, 0, none⟩) ts.length ts.length) rfl (fun ρ e W => ex_move (e _ _ rfl)) rfl rfl ?_
      refine wt1 (v := .pointer (some ⟨g49, 1, none⟩)) rfl (fun ρ e W => ex_field (q := 1) fi38_1 (e _ _ rfl) rfl) rfl rfl ?_
      refine wt0 (v := .int .i64 (b2 : Int)) rfl (fun ρ e W hW => ex_load1 ty3 (e _ _ rfl) (hW.cell 0 1 rfl rfl)) rfl rfl ?_
      refine wt1 (v := .int .i64 (i : Int)) rfl (fun ρ e W => ex_move (e _ _ rfl)) rfl rfl ?_
      refine wt1 (v := .int .i64 (i : Int)) rfl (fun ρ e W => ex_move (e _ _ rfl)) rfl rfl ?_
      refine wt1 (v := .pointer (some ⟨g8, a, none⟩)) rfl (fun ρ e W => ex_idx (q := a) (i := a) el36 (e _ _ rfl) (e _ _ rfl) (by omega) (by omega)) rfl rfl ?_
      obtain ⟨w69, r70, O71, hs72⟩ := own_put (o := a) (n := 1) O68 ty3 (.int .i64 (i : Int)) [.int .i64 (i : Int)] (cs' := (intCs (((upAt ts i).set i (-1)).set a (i : Int))).toArray) rfl rfl rfl (by simp [intCs, upAt_len, upAtR_len] <;> omega) (setI _ a (i : Int))
      refine wt2_none rfl (fun ρ e => r70 ρ _ _ _ _ _ _ (e _ _ rfl) (e _ _ rfl)) rfl (O71.re [1, 2] rfl : Own Z0 W w69 [.blk g49 38 #[.int .i64 (a : Int), .int .i64 (b2 : Int), .int .i64 0], .ro D (fun w => NodesD D w (.slice (some ⟨b, o, none⟩) ts.length c) ts)]) ?_
      refine wt1 (v := .pointer (some ⟨g8, b2, none⟩)) rfl (fun ρ e W => ex_idx (q := b2) (i := b2) el36 (e _ _ rfl) (e _ _ rfl) (by omega) (by omega)) rfl rfl ?_
      obtain ⟨w73, r74, O75, hs76⟩ := own_put (o := b2) (n := 1) O71 ty3 (.int .i64 (i : Int)) [.int .i64 (i : Int)] (cs' := (intCs ((((upAt ts i).set i (-1)).set a (i : Int)).set b2 (i : Int))).toArray) rfl rfl rfl (by simp [intCs, upAt_len, upAtR_len] <;> omega) (setI _ b2 (i : Int))
      refine wt2_none rfl (fun ρ e => r74 ρ _ _ _ _ _ _ (e _ _ rfl) (e _ _ rfl)) rfl (O75.re [1, 2] rfl : Own Z0 W w73 [.blk g49 38 #[.int .i64 (a : Int), .int .i64 (b2 : Int), .int .i64 0], .ro D (fun w => NodesD D w (.slice (some ⟨b, o, none⟩) ts.length c) ts)]) ?_
      refine wt_nil ?_
      refine xw_block ?_
      refine xw_next K47 ?_
      refine cw_region ?_
      refine wl_val (v := .int .i64 ((i + 1 : Nat) : Int)) (fun ρ e => ex_arith (k := .i64) (u := (i : Int)) (v := 1) (e _ _ rfl) (e _ _ rfl) (congrArg some ((congrArg _ (by omega)).trans (wrap_in (u := ((i + 1 : Nat) : Int)) (by omega) (by omega))))) rfl rfl ?_
      refine wl_val (v := .int .i64 ((i + 1 : Nat) : Int)) (fun ρ e => ex_move (e _ _ rfl)) rfl rfl ?_
      refine wl_nil ?_
      have O77 : Own Z0 W w73 [.blk g8 3 ((intCs (upAt ts (i + 1))).toArray), .ro D (fun w => NodesD D w (.slice (some ⟨b, o, none⟩) ts.length c) ts)] := by rw [← upAt_node hV hx]; exact (O75.re [0, 2] rfl : Own Z0 W w73 [.blk g8 3 ((intCs ((((upAt ts i).set i (-1)).set a (i : Int)).set b2 (i : Int))).toArray), .ro D (fun w => NodesD D w (.slice (some ⟨b, o, none⟩) ts.length c) ts)])
      refine xw_round K19 (i + 1) (by show ts.length - (i + 1) < ts.length - i; omega) ⟨(by show i + 1 ≤ ts.length; omega), O77⟩ ⟨rfl, rfl, rfl, rfl, trivial⟩
  · have hie : i = ts.length := by omega
    rw [hie, upAt_all] at O20
    refine cw_seq (fun FK78 K78 => ?_)
    refine cw_region ?_
    refine wl_val (v := .bool false) (fun ρ e => ex_cmp (u := (i : Int)) (v := ((ts.length : Nat) : Int)) (e _ _ rfl) (e _ _ rfl) (lss0 (by omega))) rfl rfl ?_
    refine wl_nil ?_
    refine xw_next K78 ?_
    refine cw_seq (fun FK79 K79 => ?_)
    refine cw_false rfl ?_
    refine cw_exit ?_
    refine xw_past (by intro h; cases h) ?_
    refine xw_past (by intro h; cases h) ?_
    refine xw_here ?_
    refine xw_next K14 ?_
    refine cw_seq (fun FK80 K80 => ?_)
    refine cw_region ?_
    refine wl_val (v := .slice (some ⟨g8, 0, none⟩) ts.length ts.length) (fun ρ e => ex_move (e _ _ rfl)) rfl rfl ?_
    refine wl_val (v := .slice (some ⟨g8, 0, none⟩) ts.length ts.length) (fun ρ e => ex_assign (e _ _ rfl)) rfl rfl ?_
    refine wl_nil ?_
    refine xw_next K80 ?_
    refine cw_ret ?_
    refine xw_ret (v := .slice (some ⟨g8, 0, none⟩) ts.length ts.length) (fun T hT => res1 rfl T _ (hT 2 _ rfl)) ?_
    have O81 := Own.blkrow (xs := intCs (parsOf ts)) (n := ts.length) (O20.re [0] rfl : Own Z0 W w17 [.blk g8 3 ((intCs (parsOf ts)).toArray)]) rfl (by simp [intCs, parsOf_len]) (by omega)
    exact ⟨g8, ts.length, rfl, O81⟩
theorem parents_no {W : World} {D : Nat → Prop} {V : Value} {ts : List VN} (hN : NodesD D W V ts) (hD : ∀ k, D k → k < W.heap.size) (hok : okT ts = false) : Calls Tryd.prog 31 #[V] W fun e w' => e = .returned (.slice none 0 0) ∧ Below W.heap.size W w' := by
  obtain ⟨A, c, rfl⟩ := hN.slice
  have O0 : Own Z0 W W [] := Own.start W
  refine sx_enter (args := [.slice A ts.length c]) Tryd.func31 rfl rfl (by simp) ?_
  refine cw_seq (fun FK1 K1 => ?_)
  refine cw_region ?_
  refine wl_val (v := .slice none 0 0) (fun ρ e => ex_assign (e _ _ rfl)) rfl rfl ?_
  refine wl_nil ?_
  refine xw_next K1 ?_
  refine cw_seq (fun FK2 K2 => ?_)
  refine cw_seq (fun FK3 K3 => ?_)
  refine cw_region ?_
  refine wl_val (v := .slice A ts.length c) (fun ρ e => ex_move (e _ _ rfl)) rfl rfl ?_
  refine wl_call (args := [.slice A ts.length c]) in_23 rfl rfl rfl ?_
  refine (checkb_ (hN.move (fun k hk => (O0.old).block k (hD k hk))) (fun k hk => Nat.lt_of_lt_of_le (hD k hk) (O0.old).size) (chk_val hok)).mono ?_
  rintro _ w4 ⟨rfl, hb5⟩
  have O6 : Own Z0 W w4 [] := O0.below hb5
  refine ⟨_, rfl, ?_⟩
  refine wl_val (v := .bool true) (fun ρ e => ex_cmp (u := 1) (v := 0) (e _ _ rfl) (e _ _ rfl) (neq1 (by omega))) rfl rfl ?_
  refine wl_nil ?_
  refine xw_next K3 ?_
  refine cw_true rfl ?_
  refine cw_seq (fun FK7 K7 => ?_)
  refine cw_region ?_
  refine wl_val (v := .slice none 0 0) (fun ρ e => ex_assign (e _ _ rfl)) rfl rfl ?_
  refine wl_nil ?_
  refine xw_next K7 ?_
  refine cw_ret ?_
  refine xw_past (by intro h; cases h) ?_
  refine xw_ret (v := .slice none 0 0) (fun T hT => res1 rfl T _ (hT 2 _ rfl)) ?_
  exact ⟨rfl, O6.old⟩
theorem climb_lt {u : List Int} {n a d p : Nat} (h : a < d) (hp : u[a]? = some (p : Int)) : climb u (n + 1) a d = climb u n p d := by
  conv => lhs; unfold climb
  rw [if_neg (by omega), if_pos h, List.getD_eq_getElem?_getD, hp]
  rfl
theorem climb_gt {u : List Int} {n a d p : Nat} (h : d < a) (hp : u[d]? = some (p : Int)) : climb u (n + 1) a d = climb u n a p := by
  conv => lhs; unfold climb
  rw [if_neg (by omega), if_neg (by omega), List.getD_eq_getElem?_getD, hp]
  rfl
theorem intCs_get {l : List Int} {k : Nat} {x : Int} (h : l[k]? = some x) : (intCs l)[k]? = some (.int .i64 x) := by simp [intCs, h]
theorem meet_ok {W : World} {D : Nat → Prop} {b o c : Nat} {ts : List VN} (hN : NodesD D W (.slice (some ⟨b, o, none⟩) ts.length c) ts) (hD : ∀ k, D k → k < W.heap.size) (hok : okT ts = true) (x y : Int) :
    Calls Tryd.prog 15 #[.slice (some ⟨b, o, none⟩) ts.length c, .int .i64 x, .int .i64 y] W fun e w' => e = .returned (.int .i64 (meetOf ts x y)) ∧ Below W.heap.size W w' := by
  have hV := okT_val hok
  have hpos := hV.pos
  have hle := hV.le
  have O0 : Own Z0 W W [] := Own.start W
  refine sx_enter (args := [.slice (some ⟨b, o, none⟩) ts.length c, .int .i64 x, .int .i64 y]) Tryd.func15 rfl rfl (by simp) ?_
  refine cw_seq (fun FK1 K1 => ?_)
  refine cw_region ?_
  refine wl_val (v := .int .i64 0) (fun ρ e => ex_assign (e _ _ rfl)) rfl rfl ?_
  refine wl_nil ?_
  refine xw_next K1 ?_
  refine cw_seq (fun FK2 K2 => ?_)
  refine cw_region ?_
  refine wl_val (v := .slice (some ⟨b, o, none⟩) ts.length c) (fun ρ e => ex_move (e _ _ rfl)) rfl rfl ?_
  refine wl_call (args := [.slice (some ⟨b, o, none⟩) ts.length c]) in_31 rfl rfl rfl ?_
  refine (parents_ok (hN.move (fun k hk => (O0.old).block k (hD k hk))) (fun k hk => Nat.lt_of_lt_of_le (hD k hk) (O0.old).size) hok).mono ?_
  rintro _ w3 ⟨g6, c7, rfl, h4⟩
  have O5 := O0.join1 h4 trivial
  refine ⟨_, rfl, ?_⟩
  refine wl_val (v := .slice (some ⟨g6, 0, none⟩) ts.length c7) (fun ρ e => ex_assign (e _ _ rfl)) rfl rfl ?_
  refine wl_nil ?_
  refine xw_next K2 ?_
  refine cw_seq (fun FK8 K8 => ?_)
  refine cw_seq (fun FK9 K9 => ?_)
  refine cw_region ?_
  refine wl_val (v := .int .i64 x) (fun ρ e => ex_move (e _ _ rfl)) rfl rfl ?_
  by_cases c10 : x < 0
  · skip
    refine wl_val (v := .bool true) (fun ρ e => ex_cmp (u := x) (v := 0) (e _ _ rfl) (e _ _ rfl) (lss1 (by omega))) rfl rfl ?_
    refine wl_val (v := .bool true) (fun ρ e => ex_move (e _ _ rfl)) rfl rfl ?_
    refine wl_skip rfl rfl ?_
    refine wl_skip rfl rfl ?_
    refine wl_skip rfl rfl ?_
    refine wl_skip rfl rfl ?_
    refine wl_val (v := .bool true) (fun ρ e => ex_pick1 (e _ _ rfl) (e _ _ rfl)) rfl rfl ?_
    refine wl_val (v := .bool true) (fun ρ e => ex_move (e _ _ rfl)) rfl rfl ?_
    refine wl_skip rfl rfl ?_
    refine wl_skip rfl rfl ?_
    refine wl_val (v := .bool true) (fun ρ e => ex_pick1 (e _ _ rfl) (e _ _ rfl)) rfl rfl ?_
    refine wl_val (v := .bool true) (fun ρ e => ex_move (e _ _ rfl)) rfl rfl ?_
    refine wl_skip rfl rfl ?_
    refine wl_skip rfl rfl ?_
    refine wl_skip rfl rfl ?_
    refine wl_skip rfl rfl ?_
    refine wl_val (v := .bool true) (fun ρ e => ex_pick1 (e _ _ rfl) (e _ _ rfl)) rfl rfl ?_
    refine wl_nil ?_
    refine xw_next K9 ?_
    refine cw_true rfl ?_
    refine cw_seq (fun FK11 K11 => ?_)
    refine cw_region ?_
    refine wl_val (v := .int .i64 (-1)) (fun ρ e => ex_assign (e _ _ rfl)) rfl rfl ?_
    refine wl_nil ?_
    refine xw_next K11 ?_
    refine cw_ret ?_
    refine xw_past (by intro h; cases h) ?_
    refine xw_ret (v := .int .i64 (-1)) (fun T hT => res1 rfl T _ (hT 6 _ rfl)) ?_
    have hm : meetOf ts x y = -1 := by unfold meetOf; rw [if_neg (by simp <;> omega)]
    rw [hm]
    exact ⟨rfl, O5.old⟩
  · skip
    obtain ⟨xa, rfl⟩ : ∃ n : Nat, x = n := ⟨x.toNat, by omega⟩
    refine wl_val (v := .bool false) (fun ρ e => ex_cmp (u := (xa : Int)) (v := 0) (e _ _ rfl) (e _ _ rfl) (lss0 (by omega))) rfl rfl ?_
    refine wl_val (v := .bool false) (fun ρ e => ex_move (e _ _ rfl)) rfl rfl ?_
    refine wl_val (v := .int .i64 (xa : Int)) (fun ρ e => ex_move (e _ _ rfl)) rfl rfl ?_
    refine wl_val (v := .slice (some ⟨g6, 0, none⟩) ts.length c7) (fun ρ e => ex_move (e _ _ rfl)) rfl rfl ?_
    refine wl_val (v := .int .i64 ((ts.length : Nat) : Int)) (fun ρ e => ex_len el36 (e _ _ rfl)) rfl rfl ?_
    by_cases c12 : (xa : Int) ≥ ((ts.length : Nat) : Int)
    · skip
      refine wl_val (v := .bool true) (fun ρ e => ex_cmp (u := (xa : Int)) (v := ((ts.length : Nat) : Int)) (e _ _ rfl) (e _ _ rfl) (geq1 (by omega))) rfl rfl ?_
      refine wl_val (v := .bool true) (fun ρ e => ex_pick0 (e _ _ rfl) (e _ _ rfl)) rfl rfl ?_
      refine wl_val (v := .bool true) (fun ρ e => ex_move (e _ _ rfl)) rfl rfl ?_
      refine wl_skip rfl rfl ?_
      refine wl_skip rfl rfl ?_
      refine wl_val (v := .bool true) (fun ρ e => ex_pick1 (e _ _ rfl) (e _ _ rfl)) rfl rfl ?_
      refine wl_val (v := .bool true) (fun ρ e => ex_move (e _ _ rfl)) rfl rfl ?_
      refine wl_skip rfl rfl ?_
      refine wl_skip rfl rfl ?_
      refine wl_skip rfl rfl ?_
      refine wl_skip rfl rfl ?_
      refine wl_val (v := .bool true) (fun ρ e => ex_pick1 (e _ _ rfl) (e _ _ rfl)) rfl rfl ?_
      refine wl_nil ?_
      refine xw_next K9 ?_
      refine cw_true rfl ?_
      refine cw_seq (fun FK13 K13 => ?_)
      refine cw_region ?_
      refine wl_val (v := .int .i64 (-1)) (fun ρ e => ex_assign (e _ _ rfl)) rfl rfl ?_
      refine wl_nil ?_
      refine xw_next K13 ?_
      refine cw_ret ?_
      refine xw_past (by intro h; cases h) ?_
      refine xw_ret (v := .int .i64 (-1)) (fun T hT => res1 rfl T _ (hT 6 _ rfl)) ?_
      have hm : meetOf ts (xa : Int) y = -1 := by unfold meetOf; rw [if_neg (by simp <;> omega)]
      rw [hm]
      exact ⟨rfl, O5.old⟩
    · skip
      refine wl_val (v := .bool false) (fun ρ e => ex_cmp (u := (xa : Int)) (v := ((ts.length : Nat) : Int)) (e _ _ rfl) (e _ _ rfl) (geq0 (by omega))) rfl rfl ?_
      refine wl_val (v := .bool false) (fun ρ e => ex_pick0 (e _ _ rfl) (e _ _ rfl)) rfl rfl ?_
      refine wl_val (v := .bool false) (fun ρ e => ex_move (e _ _ rfl)) rfl rfl ?_
      refine wl_val (v := .int .i64 y) (fun ρ e => ex_move (e _ _ rfl)) rfl rfl ?_
      by_cases c14 : y < 0
      · skip
        refine wl_val (v := .bool true) (fun ρ e => ex_cmp (u := y) (v := 0) (e _ _ rfl) (e _ _ rfl) (lss1 (by omega))) rfl rfl ?_
        refine wl_val (v := .bool true) (fun ρ e => ex_pick0 (e _ _ rfl) (e _ _ rfl)) rfl rfl ?_
        refine wl_val (v := .bool true) (fun ρ e => ex_move (e _ _ rfl)) rfl rfl ?_
        refine wl_skip rfl rfl ?_
        refine wl_skip rfl rfl ?_
        refine wl_skip rfl rfl ?_
        refine wl_skip rfl rfl ?_
        refine wl_val (v := .bool true) (fun ρ e => ex_pick1 (e _ _ rfl) (e _ _ rfl)) rfl rfl ?_
        refine wl_nil ?_
        refine xw_next K9 ?_
        refine cw_true rfl ?_
        refine cw_seq (fun FK15 K15 => ?_)
        refine cw_region ?_
        refine wl_val (v := .int .i64 (-1)) (fun ρ e => ex_assign (e _ _ rfl)) rfl rfl ?_
        refine wl_nil ?_
        refine xw_next K15 ?_
        refine cw_ret ?_
        refine xw_past (by intro h; cases h) ?_
        refine xw_ret (v := .int .i64 (-1)) (fun T hT => res1 rfl T _ (hT 6 _ rfl)) ?_
        have hm : meetOf ts (xa : Int) y = -1 := by unfold meetOf; rw [if_neg (by simp <;> omega)]
        rw [hm]
        exact ⟨rfl, O5.old⟩
      · skip
        obtain ⟨ya, rfl⟩ : ∃ n : Nat, y = n := ⟨y.toNat, by omega⟩
        refine wl_val (v := .bool false) (fun ρ e => ex_cmp (u := (ya : Int)) (v := 0) (e _ _ rfl) (e _ _ rfl) (lss0 (by omega))) rfl rfl ?_
        refine wl_val (v := .bool false) (fun ρ e => ex_pick0 (e _ _ rfl) (e _ _ rfl)) rfl rfl ?_
        refine wl_val (v := .bool false) (fun ρ e => ex_move (e _ _ rfl)) rfl rfl ?_
        refine wl_val (v := .int .i64 (ya : Int)) (fun ρ e => ex_move (e _ _ rfl)) rfl rfl ?_
        refine wl_val (v := .slice (some ⟨g6, 0, none⟩) ts.length c7) (fun ρ e => ex_move (e _ _ rfl)) rfl rfl ?_
        refine wl_val (v := .int .i64 ((ts.length : Nat) : Int)) (fun ρ e => ex_len el36 (e _ _ rfl)) rfl rfl ?_
        by_cases c16 : (ya : Int) ≥ ((ts.length : Nat) : Int)
        · skip
          refine wl_val (v := .bool true) (fun ρ e => ex_cmp (u := (ya : Int)) (v := ((ts.length : Nat) : Int)) (e _ _ rfl) (e _ _ rfl) (geq1 (by omega))) rfl rfl ?_
          refine wl_val (v := .bool true) (fun ρ e => ex_pick0 (e _ _ rfl) (e _ _ rfl)) rfl rfl ?_
          refine wl_nil ?_
          refine xw_next K9 ?_
          refine cw_true rfl ?_
          refine cw_seq (fun FK17 K17 => ?_)
          refine cw_region ?_
          refine wl_val (v := .int .i64 (-1)) (fun ρ e => ex_assign (e _ _ rfl)) rfl rfl ?_
          refine wl_nil ?_
          refine xw_next K17 ?_
          refine cw_ret ?_
          refine xw_past (by intro h; cases h) ?_
          refine xw_ret (v := .int .i64 (-1)) (fun T hT => res1 rfl T _ (hT 6 _ rfl)) ?_
          have hm : meetOf ts (xa : Int) (ya : Int) = -1 := by unfold meetOf; rw [if_neg (by simp <;> omega)]
          rw [hm]
          exact ⟨rfl, O5.old⟩
        · skip
          refine wl_val (v := .bool false) (fun ρ e => ex_cmp (u := (ya : Int)) (v := ((ts.length : Nat) : Int)) (e _ _ rfl) (e _ _ rfl) (geq0 (by omega))) rfl rfl ?_
          refine wl_val (v := .bool false) (fun ρ e => ex_pick0 (e _ _ rfl) (e _ _ rfl)) rfl rfl ?_
          refine wl_nil ?_
          refine xw_next K9 ?_
          refine cw_false rfl ?_
          refine cw_skip ?_
          refine xw_next K8 ?_
          refine cw_seq (fun FK18 K18 => ?_)
          refine cw_block ?_
          have O19 : Own Z0 W w3 [.row (.slice (some ⟨g6, 0, none⟩) ts.length c7) 3 1 ts.length (intCs (parsOf ts))] := O5
          refine cw_loop (ι := Nat × Nat × Nat) (fun q => [(1, .int .i64 (q.2.1 : Int)), (2, .int .i64 (q.2.2 : Int)), (7, .slice (some ⟨g6, 0, none⟩) ts.length c7)]) (fun q X => (climb (parsOf ts) (2 * ts.length) xa ya = climb (parsOf ts) q.1 q.2.1 q.2.2) ∧ (q.2.1 < ts.length) ∧ (q.2.2 < ts.length) ∧ (2 * ts.length ≤ q.2.1 + q.2.2 + q.1) ∧ Own Z0 W X [.row (.slice (some ⟨g6, 0, none⟩) ts.length c7) 3 1 ts.length (intCs (parsOf ts))]) (fun q => q.1) ((2 * ts.length), xa, ya) ⟨rfl, (by show xa < ts.length; omega), (by show ya < ts.length; omega), (by show 2 * ts.length ≤ xa + ya + 2 * ts.length; omega), O19⟩ ⟨rfl, rfl, rfl, trivial⟩ (fun q w20 hJ F21 K22 => ?_)
          obtain ⟨n, a, d⟩ := q
          obtain ⟨hcm, hal, hdl, hnn, O23⟩ := hJ
          dsimp only at hcm hal hdl hnn O23 ⊢
          by_cases had : a = d
          · subst had
            refine cw_seq (fun FK24 K24 => ?_)
            refine cw_seq (fun FK25 K25 => ?_)
            refine cw_region ?_
            refine wl_val (v := .int .i64 (a : Int)) (fun ρ e => ex_move (e _ _ rfl)) rfl rfl ?_
            refine wl_val (v := .int .i64 (a : Int)) (fun ρ e => ex_move (e _ _ rfl)) rfl rfl ?_
            refine wl_val (v := .bool false) (fun ρ e => ex_cmp (u := (a : Int)) (v := (a : Int)) (e _ _ rfl) (e _ _ rfl) (neq0 (by omega))) rfl rfl ?_
            refine wl_nil ?_
            refine xw_next K25 ?_
            refine cw_false rfl ?_
            refine cw_exit ?_
            refine xw_past (by intro h; cases h) ?_
            refine xw_past (by intro h; cases h) ?_
            refine xw_here ?_
            refine xw_next K18 ?_
            refine cw_seq (fun FK26 K26 => ?_)
            refine cw_region ?_
            refine wl_val (v := .int .i64 (a : Int)) (fun ρ e => ex_move (e _ _ rfl)) rfl rfl ?_
            refine wl_val (v := .int .i64 (a : Int)) (fun ρ e => ex_assign (e _ _ rfl)) rfl rfl ?_
            refine wl_nil ?_
            refine xw_next K26 ?_
            refine cw_ret ?_
            refine xw_ret (v := .int .i64 (a : Int)) (fun T hT => res1 rfl T _ (hT 6 _ rfl)) ?_
            have hm : meetOf ts (xa : Int) (ya : Int) = (a : Int) := by unfold meetOf; rw [if_pos (by simp [hok] <;> omega), Int.toNat_natCast, Int.toNat_natCast, hcm, climb_eq]
            rw [hm]
            exact ⟨rfl, O23.old⟩
          · skip
            refine cw_seq (fun FK27 K27 => ?_)
            refine cw_seq (fun FK28 K28 => ?_)
            refine cw_region ?_
            refine wl_val (v := .int .i64 (a : Int)) (fun ρ e => ex_move (e _ _ rfl)) rfl rfl ?_
            refine wl_val (v := .int .i64 (d : Int)) (fun ρ e => ex_move (e _ _ rfl)) rfl rfl ?_
            refine wl_val (v := .bool true) (fun ρ e => ex_cmp (u := (a : Int)) (v := (d : Int)) (e _ _ rfl) (e _ _ rfl) (neq1 (by omega))) rfl rfl ?_
            refine wl_nil ?_
            refine xw_next K28 ?_
            refine cw_true rfl ?_
            refine cw_skip ?_
            refine xw_next K27 ?_
            refine cw_block ?_
            refine cw_seq (fun FK29 K29 => ?_)
            refine cw_region ?_
            refine wl_val (v := .int .i64 (a : Int)) (fun ρ e => ex_move (e _ _ rfl)) rfl rfl ?_
            refine wl_val (v := .int .i64 (d : Int)) (fun ρ e => ex_move (e _ _ rfl)) rfl rfl ?_
            by_cases c30 : (a : Int) < (d : Int)
            · skip
              obtain ⟨p, _, _, _, _, hkp, hpl, hpg⟩ := par_get hV (k := a) (by omega)
              obtain ⟨n, rfl⟩ : ∃ m, n = m + 1 := ⟨n - 1, by omega⟩
              have hcl : climb (parsOf ts) (n + 1) a d = climb (parsOf ts) n p d := climb_lt (by omega) hpg
              refine wl_val (v := .bool true) (fun ρ e => ex_cmp (u := (a : Int)) (v := (d : Int)) (e _ _ rfl) (e _ _ rfl) (lss1 (by omega))) rfl rfl ?_
              refine wl_nil ?_
              refine xw_next K29 ?_
              refine cw_true rfl ?_
              refine cw_region ?_
              refine wl_val (v := .slice (some ⟨g6, 0, none⟩) ts.length c7) (fun ρ e => ex_move (e _ _ rfl)) rfl rfl ?_
              refine wl_val (v := .int .i64 (a : Int)) (fun ρ e => ex_move (e _ _ rfl)) rfl rfl ?_
              refine wl_val (v := .pointer (some ⟨g6, a, none⟩)) (fun ρ e => ex_idx (q := a) (i := a) el36 (e _ _ rfl) (e _ _ rfl) (by omega) (by omega)) rfl rfl ?_
              refine wl_val (v := .int .i64 (p : Int)) (fun ρ e => ex_load1 ty3 (e _ _ rfl) (rowcell (O23.row 0 rfl) (intCs_get hpg))) rfl rfl ?_
              refine wl_val (v := .int .i64 (p : Int)) (fun ρ e => ex_assign (e _ _ rfl)) rfl rfl ?_
              refine wl_nil ?_
              refine xw_block ?_
              refine xw_round K22 (n, p, d) (by show n < n + 1; omega) ⟨(by show climb _ _ _ _ = climb _ _ _ _; rw [← hcl]; exact hcm), (by show p < ts.length; omega), (by show d < ts.length; omega), (by show 2 * ts.length ≤ p + d + n; omega), O23⟩ ⟨rfl, rfl, rfl, trivial⟩
            · skip
              obtain ⟨p, _, _, _, _, hkp, hpl, hpg⟩ := par_get hV (k := d) (by omega)
              obtain ⟨n, rfl⟩ : ∃ m, n = m + 1 := ⟨n - 1, by omega⟩
              have hcl : climb (parsOf ts) (n + 1) a d = climb (parsOf ts) n a p := climb_gt (by omega) hpg
              refine wl_val (v := .bool false) (fun ρ e => ex_cmp (u := (a : Int)) (v := (d : Int)) (e _ _ rfl) (e _ _ rfl) (lss0 (by omega))) rfl rfl ?_
              refine wl_nil ?_
              refine xw_next K29 ?_
              refine cw_false rfl ?_
              refine cw_region ?_
              refine wl_val (v := .slice (some ⟨g6, 0, none⟩) ts.length c7) (fun ρ e => ex_move (e _ _ rfl)) rfl rfl ?_
              refine wl_val (v := .int .i64 (d : Int)) (fun ρ e => ex_move (e _ _ rfl)) rfl rfl ?_
              refine wl_val (v := .pointer (some ⟨g6, d, none⟩)) (fun ρ e => ex_idx (q := d) (i := d) el36 (e _ _ rfl) (e _ _ rfl) (by omega) (by omega)) rfl rfl ?_
              refine wl_val (v := .int .i64 (p : Int)) (fun ρ e => ex_load1 ty3 (e _ _ rfl) (rowcell (O23.row 0 rfl) (intCs_get hpg))) rfl rfl ?_
              refine wl_val (v := .int .i64 (p : Int)) (fun ρ e => ex_assign (e _ _ rfl)) rfl rfl ?_
              refine wl_nil ?_
              refine xw_block ?_
              refine xw_round K22 (n, a, p) (by show n < n + 1; omega) ⟨(by show climb _ _ _ _ = climb _ _ _ _; rw [← hcl]; exact hcm), (by show a < ts.length; omega), (by show p < ts.length; omega), (by show 2 * ts.length ≤ a + p + n; omega), O23⟩ ⟨rfl, rfl, rfl, trivial⟩
theorem meet_no {W : World} {D : Nat → Prop} {V : Value} {ts : List VN} (hN : NodesD D W V ts) (hD : ∀ k, D k → k < W.heap.size) (hok : okT ts = false) (x y : Int) :
    Calls Tryd.prog 15 #[V, .int .i64 x, .int .i64 y] W fun e w' => e = .returned (.int .i64 (meetOf ts x y)) ∧ Below W.heap.size W w' := by
  obtain ⟨A, c, rfl⟩ := hN.slice
  have O0 : Own Z0 W W [] := Own.start W
  refine sx_enter (args := [.slice A ts.length c, .int .i64 x, .int .i64 y]) Tryd.func15 rfl rfl (by simp) ?_
  refine cw_seq (fun FK1 K1 => ?_)
  refine cw_region ?_
  refine wl_val (v := .int .i64 0) (fun ρ e => ex_assign (e _ _ rfl)) rfl rfl ?_
  refine wl_nil ?_
  refine xw_next K1 ?_
  refine cw_seq (fun FK2 K2 => ?_)
  refine cw_region ?_
  refine wl_val (v := .slice A ts.length c) (fun ρ e => ex_move (e _ _ rfl)) rfl rfl ?_
  refine wl_call (args := [.slice A ts.length c]) in_31 rfl rfl rfl ?_
  refine (parents_no (hN.move (fun k hk => (O0.old).block k (hD k hk))) (fun k hk => Nat.lt_of_lt_of_le (hD k hk) (O0.old).size) hok).mono ?_
  rintro _ w3 ⟨rfl, hb4⟩
  have O5 : Own Z0 W w3 [] := O0.below hb4
  refine ⟨_, rfl, ?_⟩
  refine wl_val (v := .slice none 0 0) (fun ρ e => ex_assign (e _ _ rfl)) rfl rfl ?_
  refine wl_nil ?_
  refine xw_next K2 ?_
  refine cw_seq (fun FK6 K6 => ?_)
  refine cw_seq (fun FK7 K7 => ?_)
  refine cw_region ?_
  refine wl_val (v := .int .i64 x) (fun ρ e => ex_move (e _ _ rfl)) rfl rfl ?_
  by_cases c8 : x < 0
  · skip
    refine wl_val (v := .bool true) (fun ρ e => ex_cmp (u := x) (v := 0) (e _ _ rfl) (e _ _ rfl) (lss1 (by omega))) rfl rfl ?_
    refine wl_val (v := .bool true) (fun ρ e => ex_move (e _ _ rfl)) rfl rfl ?_
    refine wl_skip rfl rfl ?_
    refine wl_skip rfl rfl ?_
    refine wl_skip rfl rfl ?_
    refine wl_skip rfl rfl ?_
    refine wl_val (v := .bool true) (fun ρ e => ex_pick1 (e _ _ rfl) (e _ _ rfl)) rfl rfl ?_
    refine wl_val (v := .bool true) (fun ρ e => ex_move (e _ _ rfl)) rfl rfl ?_
    refine wl_skip rfl rfl ?_
    refine wl_skip rfl rfl ?_
    refine wl_val (v := .bool true) (fun ρ e => ex_pick1 (e _ _ rfl) (e _ _ rfl)) rfl rfl ?_
    refine wl_val (v := .bool true) (fun ρ e => ex_move (e _ _ rfl)) rfl rfl ?_
    refine wl_skip rfl rfl ?_
    refine wl_skip rfl rfl ?_
    refine wl_skip rfl rfl ?_
    refine wl_skip rfl rfl ?_
    refine wl_val (v := .bool true) (fun ρ e => ex_pick1 (e _ _ rfl) (e _ _ rfl)) rfl rfl ?_
    refine wl_nil ?_
    refine xw_next K7 ?_
    refine cw_true rfl ?_
    refine cw_seq (fun FK9 K9 => ?_)
    refine cw_region ?_
    refine wl_val (v := .int .i64 (-1)) (fun ρ e => ex_assign (e _ _ rfl)) rfl rfl ?_
    refine wl_nil ?_
    refine xw_next K9 ?_
    refine cw_ret ?_
    refine xw_past (by intro h; cases h) ?_
    refine xw_ret (v := .int .i64 (-1)) (fun T hT => res1 rfl T _ (hT 6 _ rfl)) ?_
    have hm : meetOf ts x y = -1 := by unfold meetOf; rw [hok]; rfl
    rw [hm]
    exact ⟨rfl, O5.old⟩
  · skip
    obtain ⟨xa, rfl⟩ : ∃ n : Nat, x = n := ⟨x.toNat, by omega⟩
    refine wl_val (v := .bool false) (fun ρ e => ex_cmp (u := (xa : Int)) (v := 0) (e _ _ rfl) (e _ _ rfl) (lss0 (by omega))) rfl rfl ?_
    refine wl_val (v := .bool false) (fun ρ e => ex_move (e _ _ rfl)) rfl rfl ?_
    refine wl_val (v := .int .i64 (xa : Int)) (fun ρ e => ex_move (e _ _ rfl)) rfl rfl ?_
    refine wl_val (v := .slice none 0 0) (fun ρ e => ex_move (e _ _ rfl)) rfl rfl ?_
    refine wl_val (v := .int .i64 (0 : Int)) (fun ρ e => ex_len el36 (e _ _ rfl)) rfl rfl ?_
    refine wl_val (v := .bool true) (fun ρ e => ex_cmp (u := (xa : Int)) (v := (0 : Int)) (e _ _ rfl) (e _ _ rfl) (geq1 (by omega))) rfl rfl ?_
    refine wl_val (v := .bool true) (fun ρ e => ex_pick0 (e _ _ rfl) (e _ _ rfl)) rfl rfl ?_
    refine wl_val (v := .bool true) (fun ρ e => ex_move (e _ _ rfl)) rfl rfl ?_
    refine wl_skip rfl rfl ?_
    refine wl_skip rfl rfl ?_
    refine wl_val (v := .bool true) (fun ρ e => ex_pick1 (e _ _ rfl) (e _ _ rfl)) rfl rfl ?_
    refine wl_val (v := .bool true) (fun ρ e => ex_move (e _ _ rfl)) rfl rfl ?_
    refine wl_skip rfl rfl ?_
    refine wl_skip rfl rfl ?_
    refine wl_skip rfl rfl ?_
    refine wl_skip rfl rfl ?_
    refine wl_val (v := .bool true) (fun ρ e => ex_pick1 (e _ _ rfl) (e _ _ rfl)) rfl rfl ?_
    refine wl_nil ?_
    refine xw_next K7 ?_
    refine cw_true rfl ?_
    refine cw_seq (fun FK10 K10 => ?_)
    refine cw_region ?_
    refine wl_val (v := .int .i64 (-1)) (fun ρ e => ex_assign (e _ _ rfl)) rfl rfl ?_
    refine wl_nil ?_
    refine xw_next K10 ?_
    refine cw_ret ?_
    refine xw_past (by intro h; cases h) ?_
    refine xw_ret (v := .int .i64 (-1)) (fun T hT => res1 rfl T _ (hT 6 _ rfl)) ?_
    have hm : meetOf ts (xa : Int) y = -1 := by unfold meetOf; rw [hok]; rfl
    rw [hm]
    exact ⟨rfl, O5.old⟩
theorem meet_ {W : World} {D : Nat → Prop} {V : Value} {ts : List VN} (hN : NodesD D W V ts) (hD : ∀ k, D k → k < W.heap.size) (x y : Int) :
    Calls Tryd.prog 15 #[V, .int .i64 x, .int .i64 y] W fun e w' => e = .returned (.int .i64 (meetOf ts x y)) ∧ Below W.heap.size W w' := by
  cases hok : okT ts with
  | false => exact meet_no hN hD hok x y
  | true =>
    obtain ⟨b, o, c, rfl, _⟩ := hN.form (okT_val hok).pos
    exact meet_ok hN hD hok x y

end Go.Proofs.YtpeoodkepjhhiaaDoor
namespace Go.Proofs.YtpeoodkepjhhiaaDoor

def isD (c : UInt8) : Bool := decide (48 ≤ c.toNat) && decide (c.toNat ≤ 57)
def endD : List UInt8 → Bool
  | [] => true
  | d :: _ => !isD d
/-- The program's reading: the nodes so far, those without a parent, the number so far. -/
def scanP : List UInt8 → List VN → List Int → Int → Option (List VN)
  | [], t, _, _ => some t
  | c :: r, t, o, n =>
    if isD c && decide (n < 1000) then
      if endD r then scanP r (t ++ [⟨-1, -1, 10 * n + ((c.toNat : Int) - 48)⟩]) (o ++ [(t.length : Int)]) 0 else scanP r t o (10 * n + ((c.toNat : Int) - 48))
    else if c.toNat = 41 then
      if o.length < 2 then none else scanP r (t ++ [⟨o.getD (o.length - 2) 0, o.getD (o.length - 1) 0, 0⟩]) (o.take (o.length - 2) ++ [(t.length : Int)]) n
    else if c.toNat = 40 ∨ c.toNat = 32 then scanP r t o n else none
def parseOf (l : List UInt8) : List VN × Int := if 1024 < l.length then ([], 5) else match scanP l [] [] 0 with
  | none => ([], 5)
  | some t => if okT t && decide (printOf t = l) then (t, 0) else ([], 5)
section
variable {c : UInt8} {r : List UInt8} {t : List VN} {o : List Int} {n : Int}
theorem scan_dig (h1 : 48 ≤ c.toNat) (h2 : c.toNat ≤ 57) (hn : n < 1000) : scanP (c :: r) t o n = if endD r then scanP r (t ++ [⟨-1, -1, 10 * n + ((c.toNat : Int) - 48)⟩]) (o ++ [(t.length : Int)]) 0 else scanP r t o (10 * n + ((c.toNat : Int) - 48)) := by
  have hd : isD c = true := by simp [isD, h1, h2]
  conv => lhs; unfold scanP
  simp [hd, hn]
theorem scan_other (h : c.toNat < 48 ∨ 57 < c.toNat ∨ 1000 ≤ n) : scanP (c :: r) t o n = if c.toNat = 41 then (if o.length < 2 then none else scanP r (t ++ [⟨o.getD (o.length - 2) 0, o.getD (o.length - 1) 0, 0⟩]) (o.take (o.length - 2) ++ [(t.length : Int)]) n) else if c.toNat = 40 ∨ c.toNat = 32 then scanP r t o n else none := by
  have hd : (isD c && decide (n < 1000)) = false := by
    rw [Bool.eq_false_iff]
    intro q
    simp only [isD, Bool.and_eq_true, decide_eq_true_eq] at q
    omega
  conv => lhs; unfold scanP
  rw [hd]
  rfl
theorem scan_close {u v : Int} (h : c.toNat < 48 ∨ 57 < c.toNat ∨ 1000 ≤ n) (hc : c.toNat = 41) (ho : 2 ≤ o.length) (hu : o[o.length - 2]? = some u) (hv : o[o.length - 1]? = some v) : scanP (c :: r) t o n = scanP r (t ++ [⟨u, v, 0⟩]) (o.take (o.length - 2) ++ [(t.length : Int)]) n := by
  rw [scan_other h, if_pos hc, if_neg (by omega), List.getD_eq_getElem?_getD, List.getD_eq_getElem?_getD, hu, hv]
  rfl
theorem scan_few (h : c.toNat < 48 ∨ 57 < c.toNat ∨ 1000 ≤ n) (hc : c.toNat = 41) (ho : o.length < 2) : scanP (c :: r) t o n = none := by rw [scan_other h, if_pos hc, if_pos ho]
theorem scan_skip (h : c.toNat < 48 ∨ 57 < c.toNat ∨ 1000 ≤ n) (hc : c.toNat = 40 ∨ c.toNat = 32) : scanP (c :: r) t o n = scanP r t o n := by rw [scan_other h, if_neg (by omega), if_pos hc]
theorem scan_bad (h : c.toNat < 48 ∨ 57 < c.toNat ∨ 1000 ≤ n) (h1 : c.toNat ≠ 41) (h2 : c.toNat ≠ 40) (h3 : c.toNat ≠ 32) : scanP (c :: r) t o n = none := by rw [scan_other h, if_neg h1, if_neg (by omega)]
end
/-! ### The text of a tree is read as its nodes in postorder -/
theorem u8_toNat {k : Nat} (h : k < 10) : (UInt8.ofNat (48 + k)).toNat = 48 + k := by
  rw [UInt8.toNat_ofNat']
  omega
theorem scan_d {k : Nat} (h : k < 10) {r : List UInt8} {t : List VN} {o : List Int} {n : Int} (hn : n < 1000) : scanP (UInt8.ofNat (48 + k) :: r) t o n = if endD r then scanP r (t ++ [⟨-1, -1, 10 * n + (k : Int)⟩]) (o ++ [(t.length : Int)]) 0 else scanP r t o (10 * n + (k : Int)) := by
  have e := u8_toNat h
  rw [scan_dig (by omega) (by omega) hn, e, show ((48 + k : Nat) : Int) - 48 = (k : Int) by omega]
theorem isD_d {k : Nat} (h : k < 10) : isD (UInt8.ofNat (48 + k)) = true := by
  have e := u8_toNat h
  simp [isD, e]; omega
theorem scan_dec {v : Int} (h1 : 1 ≤ v) (h2 : v ≤ 128) {r : List UInt8} (hr : endD r = true) (t : List VN) (o : List Int) : scanP (dec v ++ r) t o 0 = scanP r (t ++ [⟨-1, -1, v⟩]) (o ++ [(t.length : Int)]) 0 := by
  unfold dec
  split
  · rw [List.singleton_append, scan_d (by omega) (by omega), if_pos hr, show (10 * (0 : Int) + (v.toNat : Int)) = v by omega]
  · split
    · have e : endD (UInt8.ofNat (48 + v.toNat % 10) :: r) = false := by show (!isD _) = false; rw [isD_d (show v.toNat % 10 < 10 by omega)]; rfl
      simp only [List.cons_append, List.nil_append]
      rw [scan_d (by omega) (by omega), e, if_neg (by decide), scan_d (by omega) (by omega), if_pos hr]
      rw [show (10 * (10 * (0 : Int) + ((v.toNat / 10 : Nat) : Int)) + ((v.toNat % 10 : Nat) : Int)) = v by omega]
    · have e : endD (UInt8.ofNat (48 + v.toNat % 10) :: r) = false := by show (!isD _) = false; rw [isD_d (show v.toNat % 10 < 10 by omega)]; rfl
      have e2 : endD (UInt8.ofNat (48 + v.toNat / 10 % 10) :: UInt8.ofNat (48 + v.toNat % 10) :: r) = false := by show (!isD _) = false; rw [isD_d (show v.toNat / 10 % 10 < 10 by omega)]; rfl
      simp only [List.cons_append, List.nil_append]
      rw [scan_d (by omega) (by omega), e2, if_neg (by decide), scan_d (by omega) (by omega), e, if_neg (by decide), scan_d (by omega) (by omega), if_pos hr]
      rw [show (10 * (10 * (10 * (0 : Int) + ((v.toNat / 100 : Nat) : Int)) + ((v.toNat / 10 % 10 : Nat) : Int)) + ((v.toNat % 10 : Nat) : Int)) = v by omega]
theorem scan_text : ∀ (T : Tr), (∀ v ∈ T.leaves, 1 ≤ v ∧ v ≤ 128) → ∀ (r : List UInt8) (t : List VN) (o : List Int), endD r = true → scanP (textT T ++ r) t o 0 = scanP r (t ++ post T t.length) (o ++ [((t.length + T.size - 1 : Nat) : Int)]) 0
  | .leaf v, h, r, t, o, hr => by
    obtain ⟨h1, h2⟩ := h v (by simp [Tr.leaves])
    simp only [textT, post, Tr.size]
    rw [scan_dec h1 h2 hr]
    rfl
  | .node a b, h, r, t, o, hr => by
    have ha := scan_text a (fun v hv => h v (by simp [Tr.leaves, hv]))
    have hb := scan_text b (fun v hv => h v (by simp [Tr.leaves, hv]))
    have h40 : (40 : UInt8).toNat = 40 := rfl
    have h32 : (32 : UInt8).toNat = 32 := rfl
    have h41 : (41 : UInt8).toNat = 41 := rfl
    have e : textT (.node a b) ++ r = 40 :: (textT a ++ (32 :: (textT b ++ (41 :: r)))) := by simp [textT]
    rw [e, scan_skip (by omega) (by omega), ha _ _ _ rfl, scan_skip (by omega) (by omega), hb _ _ _ rfl]
    rw [scan_close (u := ((t.length + a.size - 1 : Nat) : Int)) (v := (((t ++ post a t.length).length + b.size - 1 : Nat) : Int)) (by omega) h41 (by simp) (by simp) (by simp)]
    have hl : (t ++ post a t.length).length = t.length + a.size := by rw [List.length_append, post_len]
    have hs := a.size_pos
    have hs2 := b.size_pos
    congr 1
    · rw [hl]
      simp only [post, List.append_assoc]
    · simp only [List.length_append, post_len, List.length_cons, List.length_nil, Tr.size]
      rw [show o.length + (0 + 1) + (0 + 1) - 2 = o.length by omega, List.append_assoc, List.take_left]
      rw [show t.length + a.size + b.size = t.length + (a.size + b.size + 1) - 1 by omega]
end Go.Proofs.YtpeoodkepjhhiaaDoor
