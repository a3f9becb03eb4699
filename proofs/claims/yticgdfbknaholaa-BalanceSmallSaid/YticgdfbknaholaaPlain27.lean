/-
  Several small texts as one.
-/
import Derived.Test.YticgdfbknaholaaGround27
import Derived.RangeFuncNested

namespace Go.Proofs.Yticgdfbknaholaa
open Go.RowKit

/-- Blocks outside [n1, n2) and [m1, m2) are as they were. -/
structure Kx (n1 n2 m1 m2 : Nat) (w w' : World) : Prop where
  os : w'.os = w.os
  output : w'.output = w.output
  size : w.heap.size ≤ w'.heap.size
  block : ∀ k, k < w.heap.size → (k < n1 ∨ n2 ≤ k) → (k < m1 ∨ m2 ≤ k) → w'.heap[k]? = w.heap[k]?
section
variable {n1 n2 m1 m2 : Nat}
theorem Kx.refl (n1 n2 m1 m2 : Nat) (w : World) : Kx n1 n2 m1 m2 w w := ⟨rfl, rfl, Nat.le_refl _, fun _ _ _ _ => rfl⟩
theorem Kx.trans {a b c : World} (h : Kx n1 n2 m1 m2 a b) (k : Kx n1 n2 m1 m2 b c) : Kx n1 n2 m1 m2 a c :=
  ⟨k.os.trans h.os, k.output.trans h.output, Nat.le_trans h.size k.size, fun i hi ho hp => (k.block i (Nat.lt_of_lt_of_le hi h.size) ho hp).trans (h.block i hi ho hp)⟩
/-- What is turned beyond the first world's size is nothing to it. -/
theorem Kx.cut {q1 q2 : Nat} {a b c : World} (h : Kx n1 n2 q1 q2 a b) (k : Kx n1 n2 m1 m2 b c) (hm : a.heap.size ≤ m1) : Kx n1 n2 q1 q2 a c :=
  ⟨k.os.trans h.os, k.output.trans h.output, Nat.le_trans h.size k.size, fun i hi ho hp => (k.block i (Nat.lt_of_lt_of_le hi h.size) ho (by omega)).trans (h.block i hi ho hp)⟩
theorem Kx.mono {p2 : Nat} {w w' : World} (h : Kx n1 n2 m1 m2 w w') (h2 : m2 ≤ p2) : Kx n1 n2 m1 p2 w w' :=
  ⟨h.os, h.output, h.size, fun k hk ho hp => h.block k hk ho (by omega)⟩
theorem Kx.of_kp {w w' : World} (h : Kp w.heap.size w w') : Kx n1 n2 m1 m2 w w' := ⟨h.os, h.output, h.size, fun k hk _ _ => h.block k hk⟩
theorem Kx.kp {B : Nat} {w w' : World} (h : Kx n1 n2 m1 m2 w w') (hB : B ≤ w.heap.size) (h1 : n2 ≤ n1 ∨ B ≤ n1) (h2 : m2 ≤ m1 ∨ B ≤ m1) : Kp B w w' := ⟨h.os, h.output, h.size, fun k hk => h.block k (by omega) (by omega) (by omega)⟩
theorem Kx.setCell {a w : World} (h : Kx n1 n2 m1 m2 a w) {p : Addr} (h1 : m1 ≤ p.block) (h2 : p.block < m2) (u : Value) : Kx n1 n2 m1 m2 a (w.setCell p u) :=
  h.trans ⟨rfl, rfl, by simp [World.setCell], fun k _ _ ho => Below.heap_setCell _ _ _ _ (by omega)⟩
theorem Kx.setIn {a w : World} (h : Kx n1 n2 m1 m2 a w) {p : Addr} (h1 : n1 ≤ p.block) (h2 : p.block < n2) (u : Value) : Kx n1 n2 m1 m2 a (w.setCell p u) :=
  h.trans ⟨rfl, rfl, by simp [World.setCell], fun k _ ho _ => Below.heap_setCell _ _ _ _ (by omega)⟩
theorem Kx.drew {a w : World} (h : Kx n1 n2 m1 m2 a w) : Kx n1 n2 m1 m2 a w.drew := ⟨h.os, h.output, h.size, h.block⟩
theorem Kx.alloc {a w : World} (h : Kx n1 n2 m1 m2 a w) (o : Obj) : Kx n1 n2 m1 m2 a (w.alloc o) := h.trans (Kx.of_kp ((Kp.refl _ _).alloc (Nat.le_refl _) o))
theorem Kx.put {a w : World} (h : Kx n1 n2 m1 m2 a w) {l : Nat} (h1 : m1 ≤ l) (h2 : l < m2) (o : Obj) : Kx n1 n2 m1 m2 a (w.putObj l o) :=
  h.trans ⟨rfl, rfl, by simp, fun k _ _ ho => World.putObj_heap_other (by omega)⟩
theorem Kx.cell {w w' : World} (h : Kx n1 n2 m1 m2 w w') {p : Addr} (hp : p.block < w.heap.size) (ho : p.block < n1 ∨ n2 ≤ p.block) (hm : p.block < m1 ∨ m2 ≤ p.block) : w'.cell? p = w.cell? p := World.cell?_of_block (w := w) (h.block p.block hp ho hm)
theorem Kx.frozen {w w' : World} (h : Kx n1 n2 m1 m2 w w') {p : Addr} (hp : p.block < w.heap.size) (ho : p.block < n1 ∨ n2 ≤ p.block) (hm : p.block < m1 ∨ m2 ≤ p.block) : w'.frozen? p = w.frozen? p := World.frozen?_of_block (w := w) (h.block p.block hp ho hm)
end
theorem Kp.put {B : Nat} {a w : World} (h : Kp B a w) {l : Nat} (hl : B ≤ l) (o : Obj) : Kp B a (w.putObj l o) :=
  h.trans ⟨rfl, rfl, by simp, fun k hk => World.putObj_heap_other (by omega)⟩

/-- A call of yield, under the fence that lets in all. -/
abbrev YieldW (P : Program) (l : Nat) (args : Array Value) (W : World) (R : Ending → World → Prop) : Prop := YieldAt Fence.wide 0 P l args W R
theorem roundIn_wide {n m k : Nat} {P : Program} {l : Nat} {f : FuncId} {tmps : Array Value} {assign body : Code} {w : World} {R : Ending → World → Prop} (h : RoundIn Fence.wide n P l f tmps assign body w R) : RoundIn (Fence.wide.inRound k) m P l f tmps assign body w R :=
  ⟨trivial, fun c cs _ => h.2 c cs (room_wide _)⟩
theorem roundIn_any {n m : Nat} {P : Program} {l : Nat} {f : FuncId} {tmps : Array Value} {assign body : Code} {w : World} {R : Ending → World → Prop} (h : RoundIn Fence.wide n P l f tmps assign body w R) : RoundIn Fence.wide m P l f tmps assign body w R :=
  ⟨trivial, fun c cs _ => h.2 c cs (room_wide _)⟩
theorem roundIn_plain {n m k : Nat} {P : Program} {l : Nat} {f : FuncId} {tmps : Array Value} {assign body : Code} {w : World} {R : Ending → World → Prop} (h : RoundIn (Fence.wide.inRound k) n P l f tmps assign body w R) : RoundIn Fence.wide m P l f tmps assign body w R :=
  ⟨trivial, fun c cs _ => h.2 c cs (fun _ h => by simp [Fence.wide, Fence.inRound] at h)⟩

/-- **What an iterator promises**: made in W0, called in a later world W in which all that lay in W0 outside [n1, n2) lies unturned, with any loop l whose rounds turn blocks of [n1, n2) and [W0's size, W's size) alone, it yields the elements xs in their order, till a round says no. -/
def Iter {α : Type} (P : Program) (g : Nat) (lb : Array Value) (encs : α → Array Value) (xs : List α) (n1 n2 : Nat) (W0 : World) : Prop :=
  ∀ (l : Nat) (J Jx : List α → World → Prop) (W : World), Kx n1 n2 0 0 W0 W →
    (∀ pre A B, J pre A → Kp W.heap.size A B → J pre B) → (∀ pre A B, Jx pre A → Kp W.heap.size A B → Jx pre B) →
    (∀ pre x rest, xs = pre ++ x :: rest → ∀ W1, W.heap.size ≤ W1.heap.size → J pre W1 → YieldW P l (encs x) W1 fun e W' =>
      ((e = .returned (.bool true) ∧ J (pre ++ [x]) W') ∨ (e = .returned (.bool false) ∧ Jx (pre ++ [x]) W')) ∧ Kx n1 n2 W0.heap.size W.heap.size W1 W') →
    J [] W → Calls P g (#[.func (.yield l) #[] #[]] ++ lb) W fun e W' => (∃ v, e = .returned v) ∧ (J xs W' ∨ ∃ pre x rest, xs = pre ++ x :: rest ∧ Jx (pre ++ [x]) W')

/-- How a round's body may be left. -/
def roundEnd {α : Type} (n1 n2 m1 m2 : Nat) (I Ix : List α → World → Prop) (xs : List α) (W : World) : Exit → Act → World → Prop
  | .normal, _, W' => Kx n1 n2 m1 m2 W W' ∧ I xs W'
  | .ret, _, W' => Kx n1 n2 m1 m2 W W' ∧ Ix xs W'
  | _, _, _ => False

theorem range_law {α : Type} {P : Program} {g : Operand} {ps : Array Tmp} {assign body : Code} {Q : Exit → Act → World → Prop} {a : Act} {w : World} {n m : Nat}
    {gf : Nat} {lb : Array Value} (hg : a.eval g = .func (.func gf) #[] lb) (eg : ∀ args w, (callFunc gf args).run P w = .ok (.enter gf args) w)
    {encs : α → Array Value} {xs : List α} {n1 n2 : Nat} {W0 : World} (hit : Iter P gf lb encs xs n1 n2 W0) (hn : n2 ≤ w.heap.size) (hk0 : Kx n1 n2 0 0 W0 w) (hps : ∀ x, (encs x).size = ps.size)
    (I Ix : List α → World → Prop) (hI : ∀ pre A B, I pre A → Kp w.heap.size A B → I pre B) (hIx : ∀ pre A B, Ix pre A → Kp w.heap.size A B → Ix pre B) (h0 : I [] w)
    (hround : ∀ l pre x rest, xs = pre ++ x :: rest → ∀ W, w.heap.size ≤ l → l < W.heap.size → I pre W →
      assign.wpIn (Fence.wide.inRound l) m P (Exit.then (fun a' W' => Kp W.heap.size W W' ∧ ∀ Wb, Kx 0 0 l (l + 1) W' Wb → Wb.heap.size = W'.heap.size → I pre Wb →
        body.wpIn (Fence.wide.inRound l) m P (roundEnd n1 n2 W0.heap.size w.heap.size I Ix (pre ++ [x]) Wb) a' Wb) (fun _ _ _ => False))
        { tmps := (ps.zip (encs x)).foldl (fun t (p, v) => t.setIfInBounds p v) a.tmps, defers := [] } W)
    (hdone : ∀ (D : Nat) (W : World), w.heap.size ≤ D → I xs W → W.heap[D]? = some (.deferred (some [])) → Q .normal { a with defers := { target := .collected D, args := #[] } :: a.defers } W)
    (hstop : ∀ (D : Nat) (pre : List α) (x : α) (rest : List α) (W : World), xs = pre ++ x :: rest → w.heap.size ≤ D → Ix (pre ++ [x]) W → W.heap[D]? = some (.deferred (some [])) → Q .ret { a with defers := { target := .collected D, args := #[] } :: a.defers } W) :
    (Code.rangeFunc g ps assign body).wpIn Fence.wide n P Q a w := by
  refine wpIn_rangeFunc ?_
  intro fn _
  show ∃ l mark w₁ d w₁' f args w₂, (Instr.enterLoop fn a.tmps ps assign body none).run P w = .ok (l, mark) w₁ ∧ _
  obtain ⟨rec, hrec⟩ : ∃ rec : LoopState → Option Code → Loop, rec = fun st pe => { state := st, pending := pe, fn, tmps := a.tmps, params := ps, assign, body, defers := w.heap.size } := ⟨_, rfl⟩
  obtain ⟨W1, hW1⟩ : ∃ W1, (w.alloc (.deferred (some []))).alloc (.loop (rec .ready none)) = W1 := ⟨_, rfl⟩
  have hk1 : Kp w.heap.size w W1 := by
    rw [← hW1]
    exact ((Kp.refl _ w).alloc (Nat.le_refl _) _).alloc (by simp) _
  have hs1 : W1.heap.size = w.heap.size + 2 := by rw [← hW1]; simp
  have hs0 := hk0.size
  have hL1 : W1.heap[w.heap.size + 1]? = some (.loop (rec .ready none)) := by
    rw [← hW1]
    have := World.alloc_heap_new (w.alloc (.deferred (some []))) (.loop (rec .ready none))
    rwa [World.size_alloc] at this
  have hD1 : W1.heap[w.heap.size]? = some (.deferred (some [])) := by
    rw [← hW1]
    exact (Below.heap_alloc _ _ _ (by simp)).trans (World.alloc_heap_new w _)
  refine ⟨w.heap.size + 1, [{ target := .collected w.heap.size, args := #[] }], W1, { target := .fn (.func gf) lb, args := #[.func (.yield (w.heap.size + 1)) #[] #[]] }, W1, gf,
    #[.func (.yield (w.heap.size + 1)) #[] #[]] ++ lb, W1, ?_, ?_, fun _ _ => trivial, ?_, fun h => by simp [Fence.wide] at h, ?_⟩
  · rw [← hW1, hrec]
    exact run_enterLoop_outer _ _ _ _ _
  · simp only [resolve, hg]
    simp [go_sem]
  · simp [invoke, go_sem, eg]
  · refine callsIn_wide.2 ((hit (w.heap.size + 1)
      (fun pre W => I pre W ∧ W.heap[w.heap.size + 1]? = some (.loop (rec .ready none)) ∧ W.heap[w.heap.size]? = some (.deferred (some [])))
      (fun pre W => Ix pre W ∧ W.heap[w.heap.size + 1]? = some (.loop (rec .done (some .ret))) ∧ W.heap[w.heap.size]? = some (.deferred (some [])))
      W1 (hk0.trans (Kx.of_kp hk1))
      (fun pre A B h k => ⟨hI _ _ _ h.1 (k.mono (by omega)), (k.block _ (by omega)).trans h.2.1, (k.block _ (by omega)).trans h.2.2⟩)
      (fun pre A B h k => ⟨hIx _ _ _ h.1 (k.mono (by omega)), (k.block _ (by omega)).trans h.2.1, (k.block _ (by omega)).trans h.2.2⟩)
      ?_ ⟨hI _ _ _ h0 hk1, hL1, hD1⟩).mono ?_)
    · rintro pre x rest hxs W hW ⟨hi, hl, hd⟩
      have hlt : w.heap.size + 1 < W.heap.size := (Array.getElem?_eq_some_iff.1 hl).1
      have hy := run_yield (P := P) (args := encs x) hl (by rw [hrec]; exact hps x)
      rw [hrec] at hy
      refine ⟨fn, _, assign, body, hy, roundIn_any (n := m) (roundIn_of_wpIn trivial (wpIn_mono (hround (w.heap.size + 1) pre x rest hxs W (by omega) hlt hi) ?_))⟩
      rintro e a' W' he
      cases e with
      | normal =>
        obtain ⟨hka, hbody⟩ := he
        have hl2 := (hka.block _ hlt).trans hl
        have hd2 := (hka.block _ (Nat.lt_of_succ_lt hlt)).trans hd
        have hlt2 : w.heap.size + 1 < W'.heap.size := Nat.lt_of_lt_of_le hlt hka.size
        refine ⟨_, run_beginRound hl2 (by rw [hrec]), ?_⟩
        have hl3 : (W'.putObj (w.heap.size + 1) (.loop { rec .ready none with state := .busy })).heap[w.heap.size + 1]? = some (.loop { rec .ready none with state := .busy }) := World.putObj_heap_same hlt2
        have hd3 : (W'.putObj (w.heap.size + 1) (.loop { rec .ready none with state := .busy })).heap[w.heap.size]? = some (.deferred (some [])) := (World.putObj_heap_other (by omega)).trans hd2
        have hi2 : I pre (W'.putObj (w.heap.size + 1) (.loop { rec .ready none with state := .busy })) := hI _ _ _ hi (((hka.mono (by omega))).put (by omega) _)
        refine wpIn_mono (hbody _ ((Kx.refl _ _ _ _ W').put (Nat.le_refl _) (Nat.lt_succ_self _) _) (by simp) hi2) ?_
        have fin : ∀ (jump : Option Code) (W3 : World), Kx n1 n2 W0.heap.size w.heap.size (W'.putObj (w.heap.size + 1) (.loop { rec .ready none with state := .busy })) W3 →
            (Instr.endRound (w.heap.size + 1) jump).run P W3 = .ok (.bool jump.isNone) (W3.putObj (w.heap.size + 1) (.loop (rec (if jump.isNone then .ready else .done) jump))) ∧
            (W3.putObj (w.heap.size + 1) (.loop (rec (if jump.isNone then .ready else .done) jump))).heap[w.heap.size + 1]? = some (.loop (rec (if jump.isNone then .ready else .done) jump)) ∧
            (W3.putObj (w.heap.size + 1) (.loop (rec (if jump.isNone then .ready else .done) jump))).heap[w.heap.size]? = some (.deferred (some [])) := fun jump W3 hk3 => by
          have hl4 := (hk3.block _ (by simpa using hlt2) (Or.inr (by omega)) (Or.inr (by omega))).trans hl3
          have hd4 := (hk3.block _ (by simp; omega) (Or.inr hn) (Or.inr (Nat.le_refl _))).trans hd3
          have := run_endRound (P := P) jump hl4
          rw [hrec] at this ⊢
          exact ⟨this, World.putObj_heap_same (Array.getElem?_eq_some_iff.1 hl4).1, (World.putObj_heap_other (by omega)).trans hd4⟩
        have kx : ∀ (o : Obj) (W3 : World), Kx n1 n2 W0.heap.size w.heap.size (W'.putObj (w.heap.size + 1) (.loop { rec .ready none with state := .busy })) W3 → Kx n1 n2 W0.heap.size W1.heap.size W (W3.putObj (w.heap.size + 1) o) := fun o W3 hk3 =>
          (((Kx.of_kp hka).put (by omega) (by omega) _).trans (hk3.mono (by omega))).put (by omega) (by omega) _
        rintro e a3 W3 hp
        cases e with
        | normal =>
          obtain ⟨hk3, hi3⟩ := hp
          obtain ⟨hr, hl5, hd5⟩ := fin none W3 hk3
          exact ⟨_, _, hr, .inl ⟨rfl, hI _ _ _ hi3 ((Kp.refl _ _).put (by omega) _), hl5, hd5⟩, kx _ _ hk3⟩
        | ret =>
          obtain ⟨hk3, hi3⟩ := hp
          obtain ⟨hr, hl5, hd5⟩ := fin (some .ret) W3 hk3
          exact ⟨_, _, hr, .inr ⟨rfl, hIx _ _ _ hi3 ((Kp.refl _ _).put (by omega) _), hl5, hd5⟩, kx _ _ hk3⟩
        | exit id => exact hp.elim
        | goto t => exact hp.elim
        | panic ch => exact hp.elim
        | outgrown => exact hp.elim
      | exit id => exact he.elim
      | goto t => exact he.elim
      | ret => exact he.elim
      | panic ch => exact he.elim
      | outgrown => exact he.elim
    · rintro e W2 ⟨⟨v, rfl⟩, (⟨hi, hl, hd⟩ | ⟨pre, x, rest, hxs, hi, hl, hd⟩)⟩
      · exact ⟨none, _, by have := run_endLoop (P := P) hl (by rw [hrec]; simp); rw [hrec] at this; exact this, hdone _ _ (Nat.le_refl _) (hI _ _ _ hi ((Kp.refl _ _).put (by omega) _)) ((World.putObj_heap_other (by omega)).trans hd)⟩
      · exact ⟨some .ret, _, by have := run_endLoop (P := P) hl (by rw [hrec]; simp); rw [hrec] at this; exact this, wpIn_ret (hstop _ _ _ _ _ hxs (Nat.le_refl _) (hIx _ _ _ hi ((Kp.refl _ _).put (by omega) _)) ((World.putObj_heap_other (by omega)).trans hd))⟩
end Go.Proofs.Yticgdfbknaholaa

namespace Go.Proofs.Yticgdfbknaholaa
open Go.RowKit

/-- An own variable of one cell. -/
structure Bx (w : World) (b : Nat) (v : Value) : Prop where
  cell : w.cell? ⟨b, 0, none⟩ = some v
  fz : w.frozen? ⟨b, 0, none⟩ = false
  lt : b < w.heap.size
theorem Bx.kp {w w' : World} {b : Nat} {v : Value} {B : Nat} (h : Bx w b v) (k : Kp B w w') (hb : b < B) : Bx w' b v :=
  ⟨(k.cell (p := ⟨b, 0, none⟩) hb).trans h.cell, (k.frozen (p := ⟨b, 0, none⟩) hb).trans h.fz, Nat.lt_of_lt_of_le h.lt k.size⟩
theorem Bx.kps {w w' : World} {b : Nat} {v : Value} (h : Bx w b v) (k : Kp w.heap.size w w') : Bx w' b v := h.kp k h.lt
theorem Bx.kx {w w' : World} {b : Nat} {v : Value} {n1 n2 m1 m2 : Nat} (h : Bx w b v) (k : Kx n1 n2 m1 m2 w w') (hb : b < n1 ∨ n2 ≤ b) (hm : b < m1 ∨ m2 ≤ b) : Bx w' b v :=
  ⟨(k.cell (p := ⟨b, 0, none⟩) h.lt hb hm).trans h.cell, (k.frozen (p := ⟨b, 0, none⟩) h.lt hb hm).trans h.fz, Nat.lt_of_lt_of_le h.lt k.size⟩
theorem Bx.new (w : World) (v : Value) (t : TypeId) : Bx (w.alloc (.cells #[v] t)) w.heap.size v := ⟨by simp, by simp, by simp⟩
theorem Bx.alloc {w : World} {b : Nat} {v : Value} (h : Bx w b v) (o : Obj) : Bx (w.alloc o) b v := h.kps ((Kp.refl _ _).alloc (Nat.le_refl _) o)
theorem Bx.drew {w : World} {b : Nat} {v : Value} (h : Bx w b v) : Bx w.drew b v := h.kps ((Kp.refl _ _).drewN 1)
theorem Bx.set {w : World} {b : Nat} {v : Value} (h : Bx w b v) (u : Value) : Bx (w.setCell ⟨b, 0, none⟩ u) b u :=
  ⟨World.cell?_setCell_same _ _ _ h.cell, by simpa using h.fz, by simpa using h.lt⟩
theorem Bx.far {w : World} {b : Nat} {v : Value} (h : Bx w b v) {p : Addr} (hp : p.block ≠ b) (u : Value) : Bx (w.setCell p u) b v :=
  ⟨(World.cell?_setCell_far _ _ _ _ hp).trans h.cell, by simpa using h.fz, by simpa using h.lt⟩
theorem C3.kx {w w' : World} {b : Nat} {x y z : Value} {n1 n2 m1 m2 : Nat} (h : C3 w b x y z) (k : Kx n1 n2 m1 m2 w w') (hb : b < n1 ∨ n2 ≤ b) (hm : b < m1 ∨ m2 ≤ b) : C3 w' b x y z :=
  ⟨(k.cell (p := ⟨b, 0, none⟩) h.lt hb hm).trans h.c0, (k.cell (p := ⟨b, 1, none⟩) h.lt hb hm).trans h.c1, (k.cell (p := ⟨b, 2, none⟩) h.lt hb hm).trans h.c2, Nat.lt_of_lt_of_le h.lt k.size⟩
end Go.Proofs.Yticgdfbknaholaa

