/-
  Several small texts as one.
-/
import Derived.Test.YticgdfbknaholaaLTells27
import Derived.Test.YticgdfbknaholaaWrongV27
import Derived.Test.YticgdfbknaholaaLFair27

namespace Go.Proofs.Yticgdfbknaholaa
open Go.RowKit

/-- The example's scene and a move in own variables. -/
structure ES (W w : World) (b4 b5 g h : Nat) : Prop where
  s : C3 w b4 (.int .i64 2) (.slice (some ⟨g, 0, none⟩) 3 3) (.slice (some ⟨h, 0, none⟩) 2 2)
  m : C3 w b5 (.int .i64 2) (.int .i64 0) (.int .i64 1)
  fs : Fz w b4
  fm : Fz w b5
  tk : IsTks w (some ⟨g, 0, none⟩) 3 exS.ts
  cu : IsInts w .i64 (some ⟨h, 0, none⟩) 2 exS.cur
  gf : ∀ o, w.frozen? ⟨g, o, none⟩ = false
  hf : ∀ o, w.frozen? ⟨h, o, none⟩ = false
  ne : g ≠ h ∧ g ≠ b4 ∧ g ≠ b5 ∧ h ≠ b4 ∧ h ≠ b5 ∧ b4 ≠ b5
  le : W.heap.size ≤ g ∧ W.heap.size ≤ h ∧ W.heap.size ≤ b4 ∧ W.heap.size ≤ b5
  kp : Kp W.heap.size W w
/-- A scene and a move in own variables, whatever they are. -/
def XT (W w : World) (b4 b5 : Nat) : Prop := ∃ (s : Sc) (A : Option Addr) (la ca : Nat) (B : Option Addr) (lb cb : Nat) (k x y : Int), C3 w b4 (.int .i64 s.n) (.slice A la ca) (.slice B lb cb) ∧ ScAt w A la B lb s ∧ (A = none → ca = 0) ∧ (B = none → cb = 0) ∧ la ≤ 60 ∧ lb ≤ 70 ∧ C3 w b5 (.int .i64 k) (.int .i64 x) (.int .i64 y) ∧ Kp W.heap.size W w
theorem exS_ok : ∀ t ∈ exS.ts, t.ok := by
  intro t ht
  simp only [exS, List.mem_cons, List.not_mem_nil, or_false] at ht
  rcases ht with rfl | rfl | rfl <;> exact ⟨by decide, by decide, by decide, by decide, by decide, by decide, by decide, by decide⟩
section
variable {W w : World} {b4 b5 g h : Nat}
theorem isTks_far1 {A : Option Addr} {n : Nat} {ts : List Tk} (h : IsTks w A n ts) {p : Addr} (hA : ∀ q, A = some q → q.block ≠ p.block) (v : Value) : IsTks (w.setCell p v) A n ts :=
  h.kx ((Kx.refl p.block (p.block + 1) 0 0 w).setIn (Nat.le_refl _) (Nat.lt_succ_self _) v) (fun q hq => by have := hA q hq; omega)
theorem isInts_far1 {A : Option Addr} {n : Nat} {zs : List Int} (h : IsInts w .i64 A n zs) {p : Addr} (hA : ∀ q, A = some q → q.block ≠ p.block) (v : Value) : IsInts (w.setCell p v) .i64 A n zs :=
  isInts_kx h ((Kx.refl p.block (p.block + 1) 0 0 w).setIn (Nat.le_refl _) (Nat.lt_succ_self _) v) (fun q hq => by have := hA q hq; omega)
theorem ES.num (e : ES W w b4 b5 g h) (n : Int) : XT W (w.setCell ⟨b4, 0, none⟩ (.int .i64 n)) b4 b5 := by
  obtain ⟨n1, n2, n3, n4, n5, n6⟩ := e.ne
  refine ⟨⟨n, exS.ts, exS.cur⟩, some ⟨g, 0, none⟩, 3, 3, some ⟨h, 0, none⟩, 2, 2, 2, 0, 1, e.s.set0 _, ⟨rfl, rfl, isTks_far1 e.tk (fun q hq => by cases hq; exact n2) _, isInts_far1 e.cu (fun q hq => by cases hq; exact n4) _, exS_ok, by omega, by omega⟩, (fun q => by cases q), (fun q => by cases q), by omega, by omega, e.m.at1 (by dsimp only; omega) _, e.kp.setCell (p := ⟨b4, 0, none⟩) e.le.2.2.1 _⟩
theorem ES.tsk (e : ES W w b4 b5 g h) {j f : Nat} {t' : Tk} {v : Value} (hj : j < 3) (hf : f < 8) (hv : t'.cells[f]? = some v)
    (ho : ∀ i, i < 8 → i ≠ f → t'.cells[i]? = (exS.ts.getD j t0).cells[i]?) (hok : t'.ok) : XT W (w.setCell ⟨g, j * 8 + f, none⟩ v) b4 b5 := by
  obtain ⟨n1, n2, n3, n4, n5, n6⟩ := e.ne
  refine ⟨⟨2, exS.ts.set j t', exS.cur⟩, some ⟨g, 0, none⟩, 3, 3, some ⟨h, 0, none⟩, 2, 2, 2, 0, 1, e.s.at1 (by dsimp only; omega) _, ⟨by rw [List.length_set]; rfl, rfl, set_fld rfl hj e.tk hf hv ho, isInts_far1 e.cu (fun q hq => by cases hq; dsimp only; omega) _, fun t ht => ?_, by omega, by omega⟩, (fun q => by cases q), (fun q => by cases q), by omega, by omega, e.m.at1 (by dsimp only; omega) _, e.kp.setCell (p := ⟨g, j * 8 + f, none⟩) e.le.1 _⟩
  rcases List.mem_or_eq_of_mem_set ht with h1 | h1
  · exact exS_ok t h1
  · rw [h1]; exact hok
theorem ES.run (e : ES W w b4 b5 g h) {j : Nat} (hj : j < 2) (n : Int) : XT W (w.setCell ⟨h, j, none⟩ (.int .i64 n)) b4 b5 := by
  obtain ⟨n1, n2, n3, n4, n5, n6⟩ := e.ne
  refine ⟨⟨2, exS.ts, exS.cur.set j n⟩, some ⟨g, 0, none⟩, 3, 3, some ⟨h, 0, none⟩, 2, 2, 2, 0, 1, e.s.at1 (by dsimp only; omega) _, ⟨rfl, by rw [List.length_set]; rfl, isTks_far1 e.tk (fun q hq => by cases hq; dsimp only; omega) _, fun i hi => ?_, exS_ok, by omega, by omega⟩, (fun q => by cases q), (fun q => by cases q), by omega, by omega, e.m.at1 (by dsimp only; omega) _, e.kp.setCell (p := ⟨h, j, none⟩) e.le.2.1 _⟩
  obtain ⟨b, off, q, hb, T⟩ := e.cu i hi
  cases q
  refine ⟨h, 0, rfl, by rw [World.size_setCell]; exact hb, ?_⟩
  by_cases hij : i = j
  · subst hij
    rw [Nat.zero_add] at T ⊢
    rw [World.cell?_setCell_same _ _ _ T, List.getD_eq_getElem?_getD, List.getElem?_set_self (by show i < 2; omega)]
    rfl
  · rw [Nat.zero_add] at T ⊢
    rw [World.cell?_setCell_other _ _ _ _ (fun q => hij (congrArg Addr.off q).symm), T, List.getD_eq_getElem?_getD, List.getD_eq_getElem?_getD, List.getElem?_set_ne (by omega)]
theorem ES.mv (e : ES W w b4 b5 g h) {w' : World} {k x y : Int} (hw : C3 w' b5 (.int .i64 k) (.int .i64 x) (.int .i64 y)) (kk : Kx b5 (b5 + 1) 0 0 w w') : XT W w' b4 b5 := by
  obtain ⟨n1, n2, n3, n4, n5, n6⟩ := e.ne
  refine ⟨exS, some ⟨g, 0, none⟩, 3, 3, some ⟨h, 0, none⟩, 2, 2, k, x, y, e.s.kx kk (by omega) (Or.inr (Nat.zero_le _)), ⟨rfl, rfl, e.tk.kx kk (fun q hq => by cases hq; dsimp only; omega), isInts_kx e.cu kk (fun q hq => by cases hq; dsimp only; omega), exS_ok, by omega, by omega⟩, (fun q => by cases q), (fun q => by cases q), by omega, by omega, hw, e.kp.trans (kk.kp e.kp.size (Or.inr e.le.2.2.2) (Or.inl (Nat.le_refl _)))⟩
theorem ES.mv0 (e : ES W w b4 b5 g h) (n : Int) : XT W (w.setCell ⟨b5, 0, none⟩ (.int .i64 n)) b4 b5 :=
  e.mv (e.m.set0 _) ((Kx.refl b5 (b5 + 1) 0 0 w).setIn (p := ⟨b5, 0, none⟩) (Nat.le_refl _) (Nat.lt_succ_self _) _)
theorem ES.mv2 (e : ES W w b4 b5 g h) (n : Int) : XT W (w.setCell ⟨b5, 2, none⟩ (.int .i64 n)) b4 b5 :=
  e.mv (e.m.set2 _) ((Kx.refl b5 (b5 + 1) 0 0 w).setIn (p := ⟨b5, 2, none⟩) (Nat.le_refl _) (Nat.lt_succ_self _) _)
theorem ES.mv12 (e : ES W w b4 b5 g h) (n : Int) : XT W ((w.setCell ⟨b5, 1, none⟩ (.int .i64 n)).setCell ⟨b5, 2, none⟩ (.int .i64 0)) b4 b5 :=
  e.mv ((e.m.set1 _).set2 _) (((Kx.refl b5 (b5 + 1) 0 0 w).setIn (p := ⟨b5, 1, none⟩) (Nat.le_refl _) (Nat.lt_succ_self _) _).setIn (p := ⟨b5, 2, none⟩) (Nat.le_refl _) (Nat.lt_succ_self _) _)
theorem made_ints (w : World) (K : Nat) : IsInts (w.alloc (.cells (madeCells (Value.int .i64 0).cells K) 3)) .i64 (some ⟨w.heap.size, 0, none⟩) K (List.replicate K 0) := fun i hi => by
  have r := Row.made w (.int .i64 0) rfl K 3
  refine ⟨w.heap.size, 0, rfl, r.lt, ?_⟩
  rw [Nat.zero_add, r.cells i hi, List.getD_eq_getElem?_getD, List.getElem?_replicate, if_pos hi]
  rfl
theorem ES.mk2 (e : ES W w b4 b5 g h) {K : Nat} (hK : K ≤ 70) : XT W ((w.setCell ⟨b4, 2, none⟩ (.slice (some ⟨w.heap.size, 0, none⟩) K K)).alloc (.cells (madeCells (Value.int .i64 0).cells K) 3)) b4 b5 := by
  obtain ⟨n1, n2, n3, n4, n5, n6⟩ := e.ne
  have kk : Kp w.heap.size w (w.alloc (.cells (madeCells (Value.int .i64 0).cells K) 3)) := (Kp.refl _ _).alloc (Nat.le_refl _) _
  have hl := e.s.lt
  have hg : g < w.heap.size := by
    obtain ⟨_, _, q, T⟩ := e.tk 0 (by omega)
    cases q
    exact T.lt
  rw [← World.setCell_alloc_past _ b4 2 _ hl]
  refine ⟨⟨2, exS.ts, List.replicate K 0⟩, some ⟨g, 0, none⟩, 3, 3, some ⟨w.heap.size, 0, none⟩, K, K, 2, 0, 1, (e.s.kp kk).set2 _, ⟨rfl, List.length_replicate, isTks_far1 (e.tk.kp kk) (fun q hq => by cases hq; exact n2) _, isInts_far1 (made_ints w K) (fun q hq => by cases hq; dsimp only; omega) _, exS_ok, by omega, by omega⟩, (fun q => by cases q), (fun q => by cases q), by omega, hK, (e.m.kp kk).at1 (by dsimp only; omega) _, (e.kp.trans (kk.mono e.kp.size)).setCell (p := ⟨b4, 2, none⟩) e.le.2.2.1 _⟩
end
end Go.Proofs.Yticgdfbknaholaa

namespace Go.Proofs.Yticgdfbknaholaa
open Go.RowKit

theorem here_any (W : World) {b : Nat} {c : Int} {t : Tk} (hT : Bx W b (.int .i64 c)) :
    Calls Try.prog 27 #[tkv t, .pointer (some ⟨b, 0, none⟩)] W fun e w' => e = .returned (.bool (t.rdy && t.cpu == c)) ∧ GrewS W w' := by
  have hg := (GrewS.refl W).alloc (.cells (tkc t) 43)
  obtain ⟨c0, _, hl⟩ := hT
  obtain ⟨i1, g1, w1, p1, m1, r1, v1, x1⟩ := t
  dsimp only [tkc] at hg
  dsimp only at *
  cases r1
  · go_enter Try.func27, Try.ntmps27
    go_wp2_with fail
    go_ret
    exact ⟨rfl, hg⟩
  · go_enter Try.func27, Try.ntmps27
    go_wp2_with fail
    go_ret
    exact ⟨rfl, hg⟩
set_option maxRecDepth 100000 in
set_option maxHeartbeats 1000000 in
theorem index27_any (W : World) {A : Option Addr} {n c b : Nat} {ts : List Tk} {k : Int} (hn : ts.length = n) (hm : n ≤ 3000000000000000000) (ht : IsTks W A n ts) (hT : Bx W b (.int .i64 k)) :
    Calls Try.prog 26 #[.slice A n c, .func (.func 27) #[] #[.pointer (some ⟨b, 0, none⟩)]] W fun e w' => ∃ r : Int, e = .returned (.int .i64 r) ∧ -1 ≤ r ∧ r < n ∧ Kp W.heap.size W w' := by
  have HT := Lib.hid ht
  have HU := Lib.hid hT
  have HN := Lib.hid hn
  clear ht hT hn
  go_enter Try.func26, Try.ntmps26
  go_wp2_with fail
  go_loopw [8] (fun i wr => ∃ j : Nat, j ≤ n ∧ i = .int .i64 (j : Int) ∧ KpS W wr) (fun i _ => n - (intOf i).toNat)
  case atStart => exact ⟨0, Nat.zero_le _, rfl, KpS.refl _⟩
  case round =>
    obtain ⟨j, hj, rfl, hk⟩ := hrel
    have HK := Lib.hid hk
    clear hk
    by_cases hlt : j < n
    · have hji : (j : Int) < n := by omega
      obtain ⟨b5, off, rfl, T⟩ := (HT.out.kp HK.out.kp) j hlt
      have HS := Lib.hid (here_any wr (t := ts.getD j t0) (HU.out.kps HK.out.kp))
      generalize ts.getD j t0 = t at *
      obtain ⟨id, grp, wt, cpu, mask, rdy, v, r2⟩ := t
      obtain ⟨c0, c1, c2, c3, c4, c5, c6, c7, hbl⟩ := T
      dsimp only at *
      generalize hgo : (rdy && cpu == k) = go at *
      clear hgo
      cases go
      · go_wp2_with fail
        (with_reducible refine HS.out.mono ?_)
        rintro e w2 ⟨rfl, hg⟩
        clear c0 c1 c2 c3 c4 c5 c6 c7 hbl
        have K := Lib.hid (HK.out.trans hg.kp)
        clear hg
        go_wp2_with fail
        go_roundw
        case rel => exact ⟨j + 1, by omega, by go_num, K.out⟩
        case measure => simp [intOf]; omega
      · go_wp2_with fail
        (with_reducible refine HS.out.mono ?_)
        rintro e w2 ⟨rfl, hg⟩
        clear c0 c1 c2 c3 c4 c5 c6 c7 hbl
        have K := Lib.hid (HK.out.trans hg.kp)
        clear hg
        go_wp2_with fail
        go_ret
        exact ⟨_, rfl, by omega, by omega, K.out⟩
    · have hje : j = n := by omega
      subst hje
      have hjn : ¬ ((j : Int) < (j : Int)) := by omega
      go_wp2_with fail
      go_ret
      exact ⟨_, rfl, by omega, by omega, HK.out⟩
/-- The scene when its tasks stand: who runs may be anything. -/
structure FC (W : World) (bS bU : Nat) (w : World) (A : Option Addr) (la ca N : Nat) (ts : List Tk) (cur : List Int) : Prop where
  s : C3 w bS (.int .i64 (N : Int)) (.slice A la ca) (.slice (some ⟨bU, 0, none⟩) N N)
  fs : Fz w bS
  tk : IsTks w A la ts
  cu : IsInts w .i64 (some ⟨bU, 0, none⟩) N cur
  uf : ∀ o, w.frozen? ⟨bU, o, none⟩ = false
  cl : cur.length = N
  nU : ∀ q, A = some q → q.block ≠ bU
  sU : bS ≠ bU
  wU : W.heap.size ≤ bU
  lU : bU < w.heap.size
  kp : Kp W.heap.size W w
section
variable {W w w' : World} {bS bU la ca N : Nat} {A : Option Addr} {ts : List Tk} {cur : List Int}
theorem FC.kps (h : FC W bS bU w A la ca N ts cur) (k : Kp w.heap.size w w') : FC W bS bU w' A la ca N ts cur :=
  ⟨h.s.kp k, h.fs.kp k, h.tk.kp k, h.cu.below k, fun o => (k.frozen (p := ⟨bU, o, none⟩) h.lU).trans (h.uf o), h.cl, h.nU, h.sU, h.wU, Nat.lt_of_lt_of_le h.lU k.size, h.kp.trans (k.mono h.kp.size)⟩
theorem FC.put (h : FC W bS bU w A la ca N ts cur) {j : Nat} (hj : j < N) (n : Int) : FC W bS bU (w.setCell ⟨bU, j, none⟩ (.int .i64 n)) A la ca N ts (cur.set j n) := by
  refine ⟨h.s.at1 (by have := h.sU; dsimp only; omega) _, h.fs.set _ _, isTks_far1 h.tk (fun q hq => h.nU q hq) _, fun i hi => ?_, fun o => by rw [World.frozen?_setCell]; exact h.uf o, by rw [List.length_set]; exact h.cl, h.nU, h.sU, h.wU, by rw [World.size_setCell]; exact h.lU, h.kp.setCell (p := ⟨bU, j, none⟩) h.wU _⟩
  obtain ⟨b, off, q, hb, T⟩ := h.cu i hi
  cases q
  refine ⟨bU, 0, rfl, by rw [World.size_setCell]; exact hb, ?_⟩
  by_cases hij : i = j
  · subst hij
    rw [Nat.zero_add] at T ⊢
    rw [World.cell?_setCell_same _ _ _ T, List.getD_eq_getElem?_getD, List.getElem?_set_self (by rw [h.cl]; exact hj)]
    rfl
  · rw [Nat.zero_add] at T ⊢
    rw [World.cell?_setCell_other _ _ _ _ (fun q => hij (congrArg Addr.off q).symm), T, List.getD_eq_getElem?_getD, List.getD_eq_getElem?_getD, List.getElem?_set_ne (by omega)]
theorem FC.at (h : FC W bS bU w A la ca N ts cur) (hl : ts.length = la) (hok : ∀ t ∈ ts, t.ok) (h1 : la ≤ 3000000000000000000) (h2 : N ≤ 3000000000000000000) : ScAt w A la (some ⟨bU, 0, none⟩) N ⟨(N : Int), ts, cur⟩ :=
  ⟨hl, h.cl, h.tk, h.cu, hok, h1, h2⟩
end
theorem Tb.mask5 {w : World} {b : Nat} {t : Tk} (h : Tb w b t) (m : Int) : Tb (w.setCell ⟨b, 4, none⟩ (.int .u64 m)) b ⟨t.id, t.grp, t.wt, t.cpu, m, t.rdy, t.v, t.r⟩ := by
  obtain ⟨⟨c0, c1, c2, c3, c4, c5, c6, c7, hl⟩, hf⟩ := h
  have oth : ∀ (j : Nat) (x : Value), 4 ≠ j → (w.setCell ⟨b, 4, none⟩ x).cell? ⟨b, j, none⟩ = w.cell? ⟨b, j, none⟩ := fun j x h => World.cell?_setCell_other _ _ _ _ (fun e => h (by cases e; rfl))
  simp only [Nat.zero_add] at c0 c1 c2 c3 c4 c5 c6 c7
  refine ⟨⟨?_, ?_, ?_, ?_, ?_, ?_, ?_, ?_, by rw [World.size_setCell]; exact hl⟩, fun o => by rw [World.frozen?_setCell]; exact hf o⟩ <;> (try simp only [Nat.zero_add])
  · rw [oth _ _ (by decide)]; exact c0
  · rw [oth _ _ (by decide)]; exact c1
  · rw [oth _ _ (by decide)]; exact c2
  · rw [oth _ _ (by decide)]; exact c3
  · exact World.cell?_setCell_same _ _ _ c4
  · rw [oth _ _ (by decide)]; exact c5
  · rw [oth _ _ (by decide)]; exact c6
  · rw [oth _ _ (by decide)]; exact c7
theorem FS.lt {W w : World} {bS bU N b : Nat} {v : Value} {ts : List Tk} (h : FS W bS bU w v N ts) (hb : v.ownBlock = some b) : b < w.heap.size := by
  obtain ⟨c, f, h1⟩ := own_hasTy h.row hb
  exact (Array.getElem?_eq_some_iff.1 h1).1
theorem FS.mask {W w : World} {bS bU N bT : Nat} {v x : Value} {ts : List Tk} (h : FS W bS bU w v N ts) (hT : v.ownBlock ≠ some bT) (hS : bS ≠ bT) (hU : bU ≠ bT) (hW : W.heap.size ≤ bT) : FS W bS bU (w.setCell ⟨bT, 4, none⟩ x) v N ts := by
  have k2 : Kx bT (bT + 1) 0 0 w (w.setCell ⟨bT, 4, none⟩ x) := (Kx.refl _ _ _ _ w).setIn (p := ⟨bT, 4, none⟩) (Nat.le_refl _) (Nat.lt_succ_self _) _
  have ne : ∀ b, b ≠ bT → b < bT ∨ bT + 1 ≤ b := fun b h => by omega
  have z : ∀ b : Nat, b < 0 ∨ 0 ≤ b := fun b => Or.inr (Nat.zero_le _)
  exact ⟨h.s.kx k2 (ne _ hS) (z _), h.fs.kx k2 (ne _ hS), h.ty.kx k2 (ne _ hS) (z _), h.cu.kx k2 (ne _ hU), h.tu.kx k2 (ne _ hU) (z _), own_far h.row k2 (fun b hb => ne b (fun e => hT (by rw [hb, e]))), h.kp.trans (k2.kp h.kp.size (Or.inr hW) (Or.inl (Nat.le_refl _)))⟩
/-- The mask of a small task. -/
theorem mask_small {q c : Int} (hq : 0 ≤ q ∧ q ≤ 3) (hc : c = 0 ∨ c = 1) : ∃ m, bits BinOp.or IntKind.u64 q (IntKind.u64.wrap (2 ^ c.toNat)) = m ∧ 0 ≤ m ∧ m ≤ 18446744073709551615 := by
  have : q = 0 ∨ q = 1 ∨ q = 2 ∨ q = 3 := by omega
  refine ⟨_, rfl, ?_⟩
  rcases hc with rfl | rfl <;> rcases this with rfl | rfl | rfl | rfl <;> decide
theorem FS.fc {W w : World} {bS bU N n : Nat} {v : Value} {ts : List Tk} (h : FS W bS bU w v N ts) (lU : W.heap.size ≤ bU) (hn : ts.length = n) :
    ∃ Av cv, v = .slice Av n cv ∧ FC W bS bU w Av n cv N ts (List.replicate N 0) ∧ (Av = none → cv = 0) ∧ ∀ q, Av = some q → q.block ≠ bS := by
  subst hn
  obtain ⟨Av, cv, rfl, ho, hrd⟩ := own_sl h.row
  have hcu := h.cu.ints (f := fun _ => 0) (zs := List.replicate N 0) (fun i hi => by simp [List.getD_eq_getElem?_getD, hi])
  refine ⟨Av, cv, rfl, ⟨h.s, h.fs, hrd.tks rfl, hcu, h.cu.fz, List.length_replicate, fun q hq e => ?_, fun e => ?_, lU, h.cu.lt, h.kp⟩, ho.nil, fun q hq e => ?_⟩
  · subst hq
    exact own_tyG h.row h.tu (by decide) (by rw [← e]; rfl)
  · obtain ⟨c, f, h1⟩ := h.tu
    obtain ⟨c', f', h2⟩ := h.ty
    rw [e, h1] at h2
    cases h2
  · subst hq
    exact own_tyG h.row h.ty (by decide) (by rw [← e]; rfl)
theorem FC.less {W w : World} {bS bU la ca : Nat} {A : Option Addr} {ts : List Tk} (h : FC W bS bU w A la ca 64 ts (List.replicate 64 0)) (hA : ∀ q, A = some q → q.block ≠ bS) (hS : W.heap.size ≤ bS) :
    C3 ((w.setCell ⟨bS, 0, none⟩ (.int .i64 63)).setCell ⟨bS, 2, none⟩ (.slice (some ⟨bU, 0, none⟩) 63 64)) bS (.int .i64 63) (.slice A la ca) (.slice (some ⟨bU, 0, none⟩) 63 64) ∧
    IsTks ((w.setCell ⟨bS, 0, none⟩ (.int .i64 63)).setCell ⟨bS, 2, none⟩ (.slice (some ⟨bU, 0, none⟩) 63 64)) A la ts ∧
    IsInts ((w.setCell ⟨bS, 0, none⟩ (.int .i64 63)).setCell ⟨bS, 2, none⟩ (.slice (some ⟨bU, 0, none⟩) 63 64)) .i64 (some ⟨bU, 0, none⟩) 63 (List.replicate 63 0) ∧
    Kp W.heap.size W ((w.setCell ⟨bS, 0, none⟩ (.int .i64 63)).setCell ⟨bS, 2, none⟩ (.slice (some ⟨bU, 0, none⟩) 63 64)) := by
  refine ⟨(h.s.set0 _).set2 _, isTks_far1 (isTks_far1 h.tk (fun q hq => hA q hq) _) (fun q hq => hA q hq) _, ?_, (h.kp.setCell (p := ⟨bS, 0, none⟩) hS _).setCell (p := ⟨bS, 2, none⟩) hS _⟩
  have h64 := isInts_far1 (p := ⟨bS, 2, none⟩) (isInts_far1 (p := ⟨bS, 0, none⟩) h.cu (fun q hq => by cases hq; exact h.sU.symm) (.int .i64 63)) (fun q hq => by cases hq; exact h.sU.symm) (.slice (some ⟨bU, 0, none⟩) 63 64)
  intro i hi
  obtain ⟨b, off, e, hb, c⟩ := h64 i (by omega)
  refine ⟨b, off, e, hb, c.trans ?_⟩
  rw [List.getD_eq_getElem?_getD, List.getD_eq_getElem?_getD, List.getElem?_replicate, List.getElem?_replicate, if_pos (by omega), if_pos hi]
/-- The mask of a task of many CPUs. -/
theorem mask_wide {j : Nat} (hj : j < 40) : ∃ m, bits BinOp.or IntKind.u64 9223372036854775808 (IntKind.u64.wrap (2 ^ j)) = m ∧ 0 ≤ m ∧ m ≤ 18446744073709551615 := by
  have key : ∀ j, j < 40 → 0 ≤ bits BinOp.or IntKind.u64 9223372036854775808 (IntKind.u64.wrap (2 ^ j)) ∧ bits BinOp.or IntKind.u64 9223372036854775808 (IntKind.u64.wrap (2 ^ j)) ≤ 18446744073709551615 := by decide +kernel
  exact ⟨_, rfl, key j hj⟩
/-- A mask of two parts. -/
theorem or_u64 {a b : Int} (a0 : 0 ≤ a) (a1 : a ≤ 18446744073709551615) (b0 : 0 ≤ b) (b1 : b ≤ 18446744073709551615) : 0 ≤ ((a.toNat ||| b.toNat : Nat) : Int) ∧ ((a.toNat ||| b.toNat : Nat) : Int) ≤ 18446744073709551615 := by
  have h := Nat.or_lt_two_pow (n := 64) (x := a.toNat) (y := b.toNat) (by omega) (by omega)
  omega
end Go.Proofs.Yticgdfbknaholaa

