/-
  Scenes that are not right: what is told of them; a task of them changed in memory.
-/
import Derived.Test.YticgdfbknaholaaPlanV27
import Derived.Test.YticgdfbknaholaaPlan27
import Derived.Test.YticgdfbknaholaaSmall27
import Derived.Laws.BitsAllLaws
namespace Go.Proofs.Yticgdfbknaholaa
open Go.RowKit

theorem wrong_vals {s : Sc} (h : rightS s = false) (c k x y m : Int) : busyE s c = 270 ∧ busyN s c = 0 ∧ pullV s c = ((0, 0, 0), 270) ∧ doV s k x y = (s0, 270) ∧ planV s m = (s0, [], 270) := by
  have h1 : busyE s c = 270 := by unfold busyE; rw [h]; rfl
  refine ⟨h1, by unfold busyN; rw [h]; rfl, ?_, by unfold doV; rw [h]; rfl, by unfold planV; rw [h]; rfl⟩
  unfold pullV
  rw [h1]
  rfl
theorem arg_vals {s : Sc} (hf : s.fit) {c : Int} (hc : c < 0 ∨ s.n ≤ c) : busyE s c = 2 ∧ busyN s c = 0 ∧ pullV s c = ((0, 0, 0), 2) := by
  have h := (rightS_iff s).2 hf
  have h1 : busyE s c = 2 := by unfold busyE; rw [if_pos h, if_neg (by omega)]
  refine ⟨h1, by unfold busyN; rw [if_pos h, if_neg (by omega)], ?_⟩
  unfold pullV
  rw [h1]
  rfl
theorem plan_arg {s : Sc} (hf : s.fit) {m : Int} (hm : m < 0) : planV s m = (s0, [], 2) := by
  unfold planV
  rw [if_pos ((rightS_iff s).2 hf), if_pos hm]
/-- No scene is right that has a wrong task. -/
theorem wrong_task {s : Sc} {t : Tk} (ht : t ∈ s.ts) (h : t.id ≤ 0 ∨ 65535 < t.id ∨ t.wt < 1 ∨ 65536 < t.wt ∨ t.cpu < 0 ∨ s.n ≤ t.cpu ∨ hasB t.mask t.cpu = false) : rightS s = false := by
  cases hr : rightS s with
  | false => rfl
  | true =>
    obtain ⟨a, b, c, d, e, f, g⟩ := ((rightS_iff s).1 hr).each t ht
    rcases h with h | h | h | h | h | h | h
    · omega
    · omega
    · omega
    · omega
    · omega
    · omega
    · rw [h] at g; cases g
theorem rightsT_mask {n : Int} : ∀ {ts : List Tk} {last : Int}, rightsT n last ts = true → ∀ t ∈ ts, n = 64 ∨ t.mask / 2 ^ n.toNat = 0
  | [], _, _ => fun t h => by cases h
  | a :: ts, last, h => fun t ht => by
    simp only [rightsT, Bool.and_eq_true] at h
    rcases List.mem_cons.1 ht with rfl | h2
    · have h1 := h.1
      unfold rightT at h1
      simp only [Bool.and_eq_true, Bool.or_eq_true, beq_iff_eq] at h1
      exact h1.2
    · exact rightsT_mask h.2 t h2
theorem wrong_mask {s : Sc} {t : Tk} (ht : t ∈ s.ts) (hn : s.n ≤ 8) (h : t.mask / 2 ^ s.n.toNat ≠ 0) : rightS s = false := by
  cases hr : rightS s with
  | false => rfl
  | true =>
    rcases rightsT_mask ((rightS_iff s).1 hr).ts t ht with h1 | h1
    · omega
    · exact absurd h1 h
theorem wrong_n {s : Sc} (h : s.n < 1 ∨ 64 < s.n) : rightS s = false := by
  cases hr : rightS s with
  | false => rfl
  | true =>
    have h1 := ((rightS_iff s).1 hr).n1
    have h2 := ((rightS_iff s).1 hr).n64
    omega
theorem wrong_cur {s : Sc} (h : (s.cur.length : Int) ≠ s.n) : rightS s = false := by
  cases hr : rightS s with
  | false => rfl
  | true => exact absurd ((rightS_iff s).1 hr).cur h
/-- A mask without a bit, and with one. -/
theorem mask_off {m c : Int} (m0 : 0 ≤ m) (m1 : m ≤ 18446744073709551615) (c0 : 0 ≤ c) (c1 : c < 8) :
    ∃ e : Int, bits .andNot .u64 m (IntKind.u64.wrap (2 ^ c.toNat)) = e ∧ 0 ≤ e ∧ e ≤ 18446744073709551615 ∧ hasB e c = false := by
  obtain ⟨M, rfl⟩ : ∃ M : Nat, m = (M : Int) := ⟨m.toNat, by omega⟩
  obtain ⟨C, rfl⟩ : ∃ C : Nat, c = (C : Int) := ⟨c.toNat, by omega⟩
  have hC : C < 8 := by omega
  have e1 : IntKind.u64.wrap (2 ^ C) = ((2 ^ C : Nat) : Int) := by
    have : C = 0 ∨ C = 1 ∨ C = 2 ∨ C = 3 ∨ C = 4 ∨ C = 5 ∨ C = 6 ∨ C = 7 := by omega
    rcases this with rfl | rfl | rfl | rfl | rfl | rfl | rfl | rfl <;> decide
  have h1 : (2 : Nat) ^ C ≤ 2 ^ 8 := Nat.pow_le_pow_right (by decide) (by omega)
  rw [Int.toNat_natCast, e1, u64_andNot_nat M (2 ^ C) (by omega) (by omega)]
  have hle : M &&& (18446744073709551615 - 2 ^ C) ≤ 18446744073709551615 - 2 ^ C := Nat.and_le_right
  have hle2 : 18446744073709551615 - 2 ^ C ≤ 18446744073709551615 := Nat.sub_le _ _
  refine ⟨_, rfl, by omega, by omega, ?_⟩
  have ht : (M &&& (18446744073709551615 - 2 ^ C)).testBit C = false := by
    have h2 : (18446744073709551615 - 2 ^ C : Nat).testBit C = false := by
      have : C = 0 ∨ C = 1 ∨ C = 2 ∨ C = 3 ∨ C = 4 ∨ C = 5 ∨ C = 6 ∨ C = 7 := by omega
      rcases this with rfl | rfl | rfl | rfl | rfl | rfl | rfl | rfl <;> decide
    rw [Nat.testBit_and, h2, Bool.and_false]
  unfold hasB
  rw [Int.toNat_natCast]
  generalize M &&& (18446744073709551615 - 2 ^ C) = X at ht
  rw [Nat.testBit_eq_decide_div_mod_eq, decide_eq_false_iff_not] at ht
  rw [beq_eq_false_iff_ne]
  intro h
  apply ht
  have h3 : ((X / 2 ^ C % 2 : Nat) : Int) = ((1 : Nat) : Int) := by simpa using h
  exact Int.ofNat_inj.1 h3
theorem mask_on {m c : Int} (m0 : 0 ≤ m) (m1 : m ≤ 18446744073709551615) (c0 : 0 ≤ c) (c1 : c ≤ 8) :
    ∃ e : Int, bits .or .u64 m (IntKind.u64.wrap (2 ^ c.toNat)) = e ∧ 0 ≤ e ∧ e ≤ 18446744073709551615 ∧ e / 2 ^ c.toNat ≠ 0 := by
  obtain ⟨M, rfl⟩ : ∃ M : Nat, m = (M : Int) := ⟨m.toNat, by omega⟩
  obtain ⟨C, rfl⟩ : ∃ C : Nat, c = (C : Int) := ⟨c.toNat, by omega⟩
  have e1 : IntKind.u64.wrap (2 ^ C) = ((2 ^ C : Nat) : Int) := by
    have : C = 0 ∨ C = 1 ∨ C = 2 ∨ C = 3 ∨ C = 4 ∨ C = 5 ∨ C = 6 ∨ C = 7 ∨ C = 8 := by omega
    rcases this with rfl | rfl | rfl | rfl | rfl | rfl | rfl | rfl | rfl <;> decide
  have h1 : (2 : Nat) ^ C ≤ 2 ^ 8 := Nat.pow_le_pow_right (by decide) (by omega)
  rw [Int.toNat_natCast, e1, bits_or_u64_nat M (2 ^ C) (by omega) (by omega)]
  have hlt : M ||| 2 ^ C < 2 ^ 64 := Nat.or_lt_two_pow (by omega) (by omega)
  have hge : 2 ^ C ≤ M ||| 2 ^ C := Nat.right_le_or
  refine ⟨_, rfl, by omega, by omega, ?_⟩
  generalize M ||| 2 ^ C = X at hge
  intro h
  have h3 : ((X / 2 ^ C : Nat) : Int) = 0 := by simpa using h
  have h4 : 0 < X / 2 ^ C := Nat.div_pos hge (Nat.two_pow_pos _)
  omega
/-- One cell of a task is stored. -/
theorem set_fld {w : World} {g n j f : Nat} {ts : List Tk} {t' : Tk} {v : Value} (hn : ts.length = n) (hj : j < n) (h : IsTks w (some ⟨g, 0, none⟩) n ts) (hf : f < 8) (hv : t'.cells[f]? = some v)
    (ho : ∀ i, i < 8 → i ≠ f → t'.cells[i]? = (ts.getD j t0).cells[i]?) : IsTks (w.setCell ⟨g, j * 8 + f, none⟩ v) (some ⟨g, 0, none⟩) n (ts.set j t') := by
  refine Rd.tks (by rw [List.length_set]; exact hn) ⟨by rw [flatT_length, List.length_set, hn], fun m u hu => ?_⟩
  have hrd := h.rd hn
  have hml : m < n * 8 := by
    have := (List.getElem?_eq_some_iff.1 hu).1
    rw [flatT_length, List.length_set, hn] at this
    exact this
  obtain ⟨i, k, hi, hk, rfl⟩ : ∃ i k, i < n ∧ k < 8 ∧ m = i * 8 + k := ⟨m / 8, m % 8, by omega, by omega, by omega⟩
  rw [flatT_get _ i k (by rw [List.length_set]; omega) hk] at hu
  have hjt : j < ts.length := by omega
  have old : ∀ x, (ts.getD i t0).cells[k]? = some x → w.cell? ⟨g, i * 8 + k, none⟩ = some x ∧ g < w.heap.size := fun x hx => by
    have h2 := hrd.2 (i * 8 + k) x (by rw [flatT_get _ i k (by omega) hk]; exact hx)
    obtain ⟨b, off, e, hb, hc⟩ := h2
    cases e
    exact ⟨by simpa using hc, hb⟩
  have hex : ∃ x, (ts.getD i t0).cells[k]? = some x := by
    have : k < (ts.getD i t0).cells.length := by simpa [Tk.cells] using hk
    exact ⟨_, List.getElem?_eq_getElem this⟩
  obtain ⟨x0, hx0⟩ := hex
  obtain ⟨hc0, hgl⟩ := old x0 hx0
  refine ⟨g, 0, rfl, by simpa [World.setCell] using hgl, ?_⟩
  rw [Nat.zero_add]
  by_cases e : i = j
  · subst e
    have e1 : (ts.set i t').getD i t0 = t' := by
      rw [List.getD_eq_getElem?_getD, List.getElem?_set_self hjt]
      rfl
    rw [e1] at hu
    by_cases ek : k = f
    · subst ek
      rw [hv] at hu
      cases hu
      exact World.cell?_setCell_same _ _ _ hc0
    · rw [World.cell?_setCell_other _ _ _ _ (fun q => ek (by have := congrArg Addr.off q; dsimp only at this; omega))]
      rw [ho k hk ek] at hu
      exact (old u hu).1
  · have e1 : (ts.set j t').getD i t0 = ts.getD i t0 := by
      rw [List.getD_eq_getElem?_getD, List.getElem?_set_ne (Ne.symm e), List.getD_eq_getElem?_getD]
    rw [e1] at hu
    rw [World.cell?_setCell_other _ _ _ _ (fun q => e (by have := congrArg Addr.off q; dsimp only at this; omega))]
    exact (old u hu).1
theorem set_mem {ts : List Tk} {j : Nat} (h : j < ts.length) (t : Tk) : t ∈ ts.set j t := List.mem_set h t
/-- A scene of the call's own with tasks, ahead of a change. -/
structure WS (W w : World) (bS g : Nat) (N L ca : Nat) (u : Value) (ts : List Tk) (cur : List Int) : Prop where
  s : C3 w bS (.int .i64 (N : Int)) (.slice (some ⟨g, 0, none⟩) L ca) u
  fs : Fz w bS
  tS : Ty w bS 30
  hl : ts.length = L
  l40 : L ≤ 40
  tk : IsTks w (some ⟨g, 0, none⟩) L ts
  ok : ∀ t ∈ ts, t.ok
  cp : ∀ t ∈ ts, 0 ≤ t.cpu ∧ t.cpu < (N : Int)
  gf : ∀ o, w.frozen? ⟨g, o, none⟩ = false
  tg : Ty w g 43
  wS : W.heap.size ≤ bS
  wg : W.heap.size ≤ g
  cow : w.ownsRow W.heap.size 3 1 u N (cur.map (Value.int .i64))
  n8 : N ≤ 8
  kp : Kp W.heap.size W w
/-- A scene that is not right. -/
def WX (W : World) (bS : Nat) (w : World) : Prop := ∃ (s' : Sc) (A : Option Addr) (la : Nat) (B : Option Addr) (lb ca cb : Nat), C3 w bS (.int .i64 s'.n) (.slice A la ca) (.slice B lb cb) ∧ ScAt w A la B lb s' ∧ rightS s' = false ∧ (A = none → ca = 0) ∧ (B = none → cb = 0) ∧ Kp W.heap.size W w
theorem ty_ne {w : World} {a b : Nat} {t u : TypeId} (h : Ty w a t) (k : Ty w b u) (hn : t ≠ u) : a ≠ b := fun e => by
  subst e
  obtain ⟨c, f, h⟩ := h
  obtain ⟨c', f', k⟩ := k
  rw [h] at k
  cases k
  exact hn rfl
section
variable {W w w' : World} {bS g N L ca : Nat} {u : Value} {ts : List Tk} {cur : List Int}
theorem WS.kps (h : WS W w bS g N L ca u ts cur) (k : Kp w.heap.size w w') : WS W w' bS g N L ca u ts cur :=
  ⟨h.s.kp k, h.fs.kp k, h.tS.kp k, h.hl, h.l40, h.tk.kp k, h.ok, h.cp, fun o => (k.frozen (p := ⟨g, o, none⟩) h.tg.lt).trans (h.gf o), h.tg.kp k, h.wS, h.wg, own_kp h.cow k, h.n8, h.kp.trans (k.mono h.kp.size)⟩
theorem WS.cur_at (h : WS W w bS g N L ca u ts cur) : ∃ B cb, u = .slice B N cb ∧ cur.length = N ∧ IsInts w .i64 B N cur ∧ (B = none → cb = 0) := by
  obtain ⟨B, cb, h1, _, _, h4, h5, _⟩ := own_form h.cow
  have := h5.isInts
  exact ⟨B, cb, h1, this.1, this.2, h4⟩
theorem WS.sc (h : WS W w bS g N L ca u ts cur) {B : Option Addr} {cb : Nat} (hu : u = .slice B N cb) : ScAt w (some ⟨g, 0, none⟩) L B N ⟨(N : Int), ts, cur⟩ := by
  obtain ⟨B', cb', h1, h2, h3, _⟩ := h.cur_at
  rw [hu] at h1
  cases h1
  have := h.n8
  have := h.l40
  exact ⟨h.hl, h2, h.tk, h3, h.ok, by omega, by omega⟩
/-- One cell of a task is stored, and the scene is not right. -/
theorem WS.fld (h : WS W w bS g N L ca u ts cur) {j f : Nat} {t' : Tk} {v : Value} (hj : j < L) (hf : f < 8) (hv : t'.cells[f]? = some v)
    (ho : ∀ i, i < 8 → i ≠ f → t'.cells[i]? = (ts.getD j t0).cells[i]?) (hok : t'.ok) (hw : rightS ⟨(N : Int), ts.set j t', cur⟩ = false) :
    WX W bS (w.setCell ⟨g, j * 8 + f, none⟩ v) := by
  obtain ⟨B, cb, rfl, hc, hcur, hB⟩ := h.cur_at
  have hgS := ty_ne h.tg h.tS (by decide)
  have hgB : ∀ p, B = some p → p.block ≠ g := fun p hp => by
    obtain ⟨A', c', q, _, _, _, _, hat⟩ := own_form h.cow
    cases q
    obtain ⟨g', rfl, _, _⟩ := hat p hp
    exact ty_ne (own_hasTy h.cow (by rw [hp]; rfl)) h.tg (by decide)
  have := h.n8
  have := h.l40
  refine ⟨⟨(N : Int), ts.set j t', cur⟩, _, L, B, N, ca, cb, h.s.far (p := ⟨g, j * 8 + f, none⟩) hgS v, ⟨by rw [List.length_set]; exact h.hl, hc, set_fld h.hl hj h.tk hf hv ho, isInts_far hcur hgB v, fun t ht => ?_, by omega, by omega⟩, hw, (fun e => by cases e), hB, h.kp.setCell (p := ⟨g, j * 8 + f, none⟩) h.wg v⟩
  rcases List.mem_or_eq_of_mem_set ht with h1 | h1
  · exact h.ok t h1
  · rw [h1]; exact hok
/-- The number of CPUs is stored, and is wrong. -/
theorem WS.num (h : WS W w bS g N L ca u ts cur) {n : Int} (hn : n < 1 ∨ 64 < n) : WX W bS (w.setCell ⟨bS, 0, none⟩ (.int .i64 n)) := by
  obtain ⟨B, cb, rfl, hc, hcur, hB⟩ := h.cur_at
  have hgS := ty_ne h.tg h.tS (by decide)
  have hgB : ∀ p, B = some p → p.block ≠ bS := fun p hp => by
    obtain ⟨A', c', q, _, _, _, _, hat⟩ := own_form h.cow
    cases q
    obtain ⟨g', rfl, _, _⟩ := hat p hp
    exact ty_ne (own_hasTy h.cow (by rw [hp]; rfl)) h.tS (by decide)
  have := h.n8
  have := h.l40
  exact ⟨⟨n, ts, cur⟩, _, L, B, N, ca, cb, h.s.set0 _, ⟨h.hl, hc, h.tk.far (fun p hp => by cases hp; exact hgS) _, isInts_far hcur hgB _, h.ok, by omega, by omega⟩, wrong_n hn, (fun e => by cases e), hB, h.kp.setCell (p := ⟨bS, 0, none⟩) h.wS _⟩
/-- One more current task is appended and stored. -/
theorem WS.more (h : WS W w bS g N L ca u ts cur) {x : Int} {B : Option Addr} {cb : Nat} (hg : w.grownBy w' u.ownBlock) (hrow : w'.ownsRow W.heap.size 3 1 (.slice B (N + 1) cb) (N + 1) (cur.map (Value.int .i64) ++ [x].map (Value.int .i64))) :
    C3 w' bS (.int .i64 (N : Int)) (.slice (some ⟨g, 0, none⟩) L ca) u ∧ Fz w' bS ∧ WX W bS (w'.setCell ⟨bS, 2, none⟩ (.slice B (N + 1) cb)) := by
  obtain ⟨n1, n2, k, hn, hb⟩ := own_kxG h.cow hg
  have cS := hb bS (own_tyG h.cow h.tS (by decide))
  have cg := hb g (own_tyG h.cow h.tg (by decide))
  have z : ∀ b : Nat, b < 0 ∨ 0 ≤ b := fun b => Or.inr (Nat.zero_le _)
  have s1 := h.s.kx k cS (z _)
  have tS1 := h.tS.kx k cS (z _)
  have kp1 := h.kp.trans (k.kp h.kp.size (Or.inr hn) (Or.inl (Nat.le_refl _)))
  have hgS := ty_ne h.tg h.tS (by decide)
  obtain ⟨A', c', q, q1, q2, q3, hrd, hat⟩ := own_form hrow
  cases q
  rw [← List.map_append] at hrd
  have hI := hrd.isInts
  have hgB : ∀ p, B = some p → p.block ≠ bS := fun p hp => by
    obtain ⟨g', rfl, _, _⟩ := hat p hp
    exact ty_ne (own_hasTy hrow (by rw [hp]; rfl)) tS1 (by decide)
  have := h.n8
  have := h.l40
  refine ⟨s1, h.fs.kx k cS, ⟨(N : Int), ts, cur ++ [x]⟩, _, L, B, N + 1, ca, cb, s1.set2 _, ⟨h.hl, hI.1, (h.tk.kx k (fun p hp => by cases hp; exact cg)).far (fun p hp => by cases hp; exact hgS) _, isInts_far hI.2 hgB _, h.ok, by omega, by omega⟩, wrong_cur ?_, (fun e => by cases e), q3, kp1.setCell (p := ⟨bS, 2, none⟩) h.wS _⟩
  rw [hI.1]
  dsimp only
  omega
end
theorem wx_drew {W w : World} {bS : Nat} (h : WX W bS w) : WX W bS w.drew := by
  obtain ⟨s', A, la, B, lb, ca, cb, h1, h2, h3, h4, h5, h6⟩ := h
  have kd : Kp w.heap.size w w.drew := (Kp.refl _ _).drewN 1
  exact ⟨s', A, la, B, lb, ca, cb, h1.kp kd, h2.kp kd, h3, h4, h5, h6.trans (kd.mono h6.size)⟩
end Go.Proofs.Yticgdfbknaholaa
