/-
  Tasks in numbers, as values and as cells.
-/
import Derived.Test.YticgdfbknaholaaPS27
namespace Go.Proofs.Yticgdfbknaholaa
open Go.RowKit

structure Xt where
  gap : Int
  cpu : Int
  fl : Int
  wt : Int
  mask : Int
def x0 : Xt := ⟨0, 0, 0, 0, 0⟩
structure Xt.ok (t : Xt) : Prop where
  g0 : 0 ≤ t.gap
  g1 : t.gap ≤ 255
  c0 : 0 ≤ t.cpu
  c1 : t.cpu ≤ 255
  f0 : 0 ≤ t.fl
  f1 : t.fl ≤ 255
  w0 : 0 ≤ t.wt
  w1 : t.wt ≤ 65535
  m0 : 0 ≤ t.mask
  m1 : t.mask ≤ 18446744073709551615
structure XtAt (w : World) (b o : Nat) (t : Xt) : Prop where
  c0 : w.cell? ⟨b, o, none⟩ = some (.int .u8 t.gap)
  c1 : w.cell? ⟨b, o + 1, none⟩ = some (.int .u8 t.cpu)
  c2 : w.cell? ⟨b, o + 2, none⟩ = some (.int .u8 t.fl)
  c3 : w.cell? ⟨b, o + 3, none⟩ = some (.int .u16 t.wt)
  c4 : w.cell? ⟨b, o + 4, none⟩ = some (.int .u64 t.mask)
  lt : b < w.heap.size
abbrev xtc (t : Xt) : Array Value := #[.int .u8 t.gap, .int .u8 t.cpu, .int .u8 t.fl, .int .u16 t.wt, .int .u64 t.mask]
theorem XtAt.blk {w w' : World} {b o : Nat} {t : Xt} (h : XtAt w b o t) (hb : w'.heap[b]? = w.heap[b]?) (hs : w.heap.size ≤ w'.heap.size) : XtAt w' b o t := by
  have e : ∀ i, w'.cell? ⟨b, i, none⟩ = w.cell? ⟨b, i, none⟩ := fun i => World.cell?_of_block hb
  exact ⟨(e _).trans h.c0, (e _).trans h.c1, (e _).trans h.c2, (e _).trans h.c3, (e _).trans h.c4, Nat.lt_of_lt_of_le h.lt hs⟩
theorem XtAt.kp {w w' : World} {b o : Nat} {t : Xt} (h : XtAt w b o t) (k : Kp w.heap.size w w') : XtAt w' b o t := h.blk (k.block b h.lt) k.size
theorem XtAt.new (w : World) (t : Xt) (ty : TypeId) : XtAt (w.alloc (.cells (xtc t) ty)) w.heap.size 0 t := ⟨by simp, by simp, by simp, by simp, by simp, by simp⟩
def IsXs (w : World) (A : Option Addr) (n : Nat) (xs : List Xt) : Prop :=
  ∀ i, i < n → ∃ b off, A = some ⟨b, off, none⟩ ∧ XtAt w b (off + i * 5) (xs.getD i x0)
theorem IsXs.kp {W w : World} {A : Option Addr} {n : Nat} {xs : List Xt} (h : IsXs W A n xs) (k : Kp W.heap.size W w) : IsXs w A n xs := fun i hi => by
  obtain ⟨b, off, h1, h2⟩ := h i hi
  exact ⟨b, off, h1, h2.kp k⟩
/-- The numbers of a scene, in memory. -/
structure SmAt (w : World) (A : Option Addr) (la ca : Nat) (B : Option Addr) (lb cb : Nat) (a : Int) (xs : List Xt) (zs : List Int) : Prop where
  a0 : 0 ≤ a
  a1 : a ≤ 255
  hla : xs.length = la
  hlb : zs.length = lb
  lac : la ≤ ca
  lbc : lb ≤ cb
  lam : (ca : Int) ≤ 9223372036854775807
  lbm : (cb : Int) ≤ 9223372036854775807
  hxs : IsXs w A la xs
  hzs : IsInts w .u8 B lb zs
  okx : ∀ t ∈ xs, t.ok
  okz : ∀ z ∈ zs, 0 ≤ z ∧ z ≤ 255
theorem SmAt.kp {w w' : World} {A B : Option Addr} {la ca lb cb : Nat} {a : Int} {xs : List Xt} {zs : List Int} (h : SmAt w A la ca B lb cb a xs zs) (k : Kp w.heap.size w w') : SmAt w' A la ca B lb cb a xs zs :=
  ⟨h.a0, h.a1, h.hla, h.hlb, h.lac, h.lbc, h.lam, h.lbm, h.hxs.kp k, h.hzs.below k, h.okx, h.okz⟩
/-- The last ID. -/
def lastI : Int → List Tk → Int
  | l, [] => l
  | _, t :: ts => lastI t.id ts
theorem lastI_snoc : ∀ (l : Int) (ts : List Tk) (t : Tk), lastI l (ts ++ [t]) = t.id
  | _, [], _ => rfl
  | _, a :: ts, t => lastI_snoc a.id ts t
theorem rightsT_snoc {n : Int} {t : Tk} : ∀ {ts : List Tk} {last : Int}, rightsT n last ts = true → rightT n (lastI last ts) t = true → rightsT n last (ts ++ [t]) = true
  | [], last, _, h => by
    simp only [List.nil_append, rightsT, Bool.and_true]
    exact h
  | a :: ts, last, hr, h => by
    simp only [rightsT, Bool.and_eq_true, List.cons_append] at hr ⊢
    exact ⟨hr.1, rightsT_snoc hr.2 h⟩
section
variable {w w' : World} {base sz n : Nat} {e : TypeId} {v : Value} {xs : List Value}
/-- A row's own block is of its own type. -/
theorem own_tyG {t : TypeId} {b : Nat} (h : w.ownsRow base e sz v n xs) (hb : Ty w b t) (ht : t ≠ e) : v.ownBlock ≠ some b := by
  rcases h.2 with ⟨rfl, _⟩ | ⟨g, cap, cur, rfl, _, hh, _⟩
  · simp [Value.ownBlock]
  · intro q
    have e1 : g = b := by simpa [Value.ownBlock] using q
    subst e1
    obtain ⟨c, fr, hb⟩ := hb
    rw [hh] at hb
    cases hb
    exact ht rfl
theorem own_kxG (h : w.ownsRow base e sz v n xs) (g : w.grownBy w' v.ownBlock) :
    ∃ n1 n2, Kx n1 n2 0 0 w w' ∧ base ≤ n1 ∧ ∀ b, v.ownBlock ≠ some b → b < n1 ∨ n2 ≤ b := by
  cases hv : v.ownBlock with
  | none =>
    rw [hv] at g
    refine ⟨base, base, ⟨g.os, g.output, g.size, fun k hk _ _ => g.block k hk (by simp)⟩, Nat.le_refl _, fun b _ => by omega⟩
  | some q =>
    have hq : base ≤ q := (h.lt q hv).1
    rw [hv] at g
    refine ⟨q, q + 1, ⟨g.os, g.output, g.size, fun k hk hne _ => g.block k hk (fun e => by cases e; omega)⟩, hq, fun b hb => ?_⟩
    have : b ≠ q := fun e => hb (by rw [e])
    omega
/-- A row stays where its block stays. -/
theorem own_far {n1 n2 : Nat} (h : w.ownsRow base e sz v n xs) (k : Kx n1 n2 0 0 w w') (hb : ∀ b, v.ownBlock = some b → b < n1 ∨ n2 ≤ b) : w'.ownsRow base e sz v n xs := by
  refine ⟨h.1, ?_⟩
  rcases h.2 with h2 | ⟨g, cap, cur, rfl, hq, hh, r1, r2, r3, r4⟩
  · exact Or.inl h2
  · exact Or.inr ⟨g, cap, cur, rfl, hq, (k.block g (by
      rcases Nat.lt_or_ge g w.heap.size with h9 | h9
      · exact h9
      · rw [Array.getElem?_eq_none h9] at hh; cases hh) (hb g (by simp [Value.ownBlock])) (Or.inr (Nat.zero_le _))).trans hh, r1, r2, r3, r4⟩
/-- A row's block is of its type. -/
theorem own_hasTy {b : Nat} (h : w.ownsRow base e sz v n xs) (hv : v.ownBlock = some b) : Ty w b e := by
  rcases h.2 with ⟨rfl, _⟩ | ⟨g, cap, cur, rfl, _, hh, _⟩
  · simp [Value.ownBlock] at hv
  · have e1 : g = b := by simpa [Value.ownBlock] using hv
    subst e1
    exact ⟨cur, (0, 0), hh⟩
end
theorem C3.set0 {w : World} {b : Nat} {x y z : Value} (h : C3 w b x y z) (v : Value) : C3 (w.setCell ⟨b, 0, none⟩ v) b v y z :=
  ⟨World.cell?_setCell_same _ _ _ h.c0, (World.cell?_setCell_other _ _ _ _ (fun q => by cases q)).trans h.c1, (World.cell?_setCell_other _ _ _ _ (fun q => by cases q)).trans h.c2, by simpa using h.lt⟩
theorem C3.set1 {w : World} {b : Nat} {x y z : Value} (h : C3 w b x y z) (v : Value) : C3 (w.setCell ⟨b, 1, none⟩ v) b x v z :=
  ⟨(World.cell?_setCell_other _ _ _ _ (fun q => by cases q)).trans h.c0, World.cell?_setCell_same _ _ _ h.c1, (World.cell?_setCell_other _ _ _ _ (fun q => by cases q)).trans h.c2, by simpa using h.lt⟩
theorem C3.set2 {w : World} {b : Nat} {x y z : Value} (h : C3 w b x y z) (v : Value) : C3 (w.setCell ⟨b, 2, none⟩ v) b x y v :=
  ⟨(World.cell?_setCell_other _ _ _ _ (fun q => by cases q)).trans h.c0, (World.cell?_setCell_other _ _ _ _ (fun q => by cases q)).trans h.c1, World.cell?_setCell_same _ _ _ h.c2, by simpa using h.lt⟩
/-- The state of Made's loops. -/
structure MS (W : World) (bP bS bR : Nat) (a : Int) (A : Option Addr) (la ca : Nat) (B : Option Addr) (lb cb : Nat) (w : World) (v u : Value) (n : Int) (ts : List Tk) (cur : List Int) : Prop where
  p : C3 w bP (.int .u8 a) (.slice A la ca) (.slice B lb cb)
  tp : Ty w bP 25
  s : C3 w bS (.int .i64 n) v u
  fs : Fz w bS
  ty : Ty w bS 30
  r : C3 w bR (.int .i64 0) (.slice none 0 0) (.slice none 0 0)
  fr : Fz w bR
  tr : Ty w bR 30
  row : w.ownsRow W.heap.size 43 8 v ts.length (flatT ts)
  cow : w.ownsRow W.heap.size 3 1 u cur.length (cur.map (Value.int .i64))
  kp : Kp W.heap.size W w
section
variable {W w w' : World} {bP bS bR la ca lb cb : Nat} {a n : Int} {A B : Option Addr} {v v' u u' : Value} {ts : List Tk} {cur : List Int}
theorem MS.kps (h : MS W bP bS bR a A la ca B lb cb w v u n ts cur) (k : Kp w.heap.size w w') : MS W bP bS bR a A la ca B lb cb w' v u n ts cur :=
  ⟨h.p.kp k, h.tp.kp k, h.s.kp k, h.fs.kp k, h.ty.kp k, h.r.kp k, h.fr.kp k, h.tr.kp k, own_kp h.row k, own_kp h.cow k, h.kp.trans (k.mono h.kp.size)⟩
/-- Behind an append onto the tasks: the cells, and the state once the tasks are stored. -/
theorem MS.growT {t : Tk} (h : MS W bP bS bR a A la ca B lb cb w v u n ts cur) (hd : bS ≠ bR) (hd2 : bS ≠ bP) (hw : W.heap.size ≤ bS) (g : w.grownBy w' v.ownBlock) (hrow : w'.ownsRow W.heap.size 43 8 v' (ts.length + 1) (flatT ts ++ flatT [t])) :
    C3 w' bS (.int .i64 n) v u ∧ Fz w' bS ∧ MS W bP bS bR a A la ca B lb cb (w'.setCell ⟨bS, 1, none⟩ v') v' u n (ts ++ [t]) cur := by
  obtain ⟨n1, n2, k, hn, hb⟩ := own_kxG h.row g
  have cS := hb bS (own_tyG h.row h.ty (by decide))
  have cR := hb bR (own_tyG h.row h.tr (by decide))
  have cP := hb bP (own_tyG h.row h.tp (by decide))
  have z : ∀ b : Nat, b < 0 ∨ 0 ≤ b := fun b => Or.inr (Nat.zero_le _)
  have s1 := h.s.kx k cS (z _)
  have f1 := h.fs.kx k cS
  have ty1 := h.ty.kx k cS (z _)
  have r1 := h.r.kx k cR (z _)
  have p1 := h.p.kx k cP (z _)
  have tp1 := h.tp.kx k cP (z _)
  have fr1 := h.fr.kx k cR
  have tr1 := h.tr.kx k cR (z _)
  have cow1 := own_far h.cow k (fun b hb2 => hb b (own_tyG h.row (own_hasTy h.cow hb2) (by decide)))
  have kp1 := h.kp.trans (k.kp h.kp.size (Or.inr hn) (Or.inl (Nat.le_refl _)))
  have k2 : Kx bS (bS + 1) 0 0 w' (w'.setCell ⟨bS, 1, none⟩ v') := (Kx.refl _ _ _ _ w').setIn (p := ⟨bS, 1, none⟩) (Nat.le_refl _) (Nat.lt_succ_self _) _
  have dR : bR < bS ∨ bS + 1 ≤ bR := by omega
  have dP : bP < bS ∨ bS + 1 ≤ bP := by omega
  have ne : ∀ b, b ≠ bS → b < bS ∨ bS + 1 ≤ b := fun b h => by omega
  refine ⟨s1, f1, p1.kx k2 dP (z _), tp1.kx k2 dP (z _), s1.set1 _, f1.set _ _, ty1.set _ _, r1.kx k2 dR (z _), fr1.kx k2 dR, tr1.kx k2 dR (z _), ?_, own_far cow1 k2 (fun b hb2 => ne b (fun e => own_tyG cow1 ty1 (by decide) (by rw [hb2, e]))), kp1.trans (k2.kp kp1.size (Or.inr hw) (Or.inl (Nat.le_refl _)))⟩
  rw [List.length_append, flatT_app]
  exact own_far hrow k2 (fun b hb2 => ne b (fun e => own_tyG hrow ty1 (by decide) (by rw [hb2, e])))
/-- The same for who runs. -/
theorem MS.growC {x : Int} (h : MS W bP bS bR a A la ca B lb cb w v u n ts cur) (hd : bS ≠ bR) (hd2 : bS ≠ bP) (hw : W.heap.size ≤ bS) (g : w.grownBy w' u.ownBlock) (hrow : w'.ownsRow W.heap.size 3 1 u' (cur.length + 1) (cur.map (Value.int .i64) ++ [x].map (Value.int .i64))) :
    C3 w' bS (.int .i64 n) v u ∧ Fz w' bS ∧ MS W bP bS bR a A la ca B lb cb (w'.setCell ⟨bS, 2, none⟩ u') v u' n ts (cur ++ [x]) := by
  obtain ⟨n1, n2, k, hn, hb⟩ := own_kxG h.cow g
  have cS := hb bS (own_tyG h.cow h.ty (by decide))
  have cR := hb bR (own_tyG h.cow h.tr (by decide))
  have cP := hb bP (own_tyG h.cow h.tp (by decide))
  have z : ∀ b : Nat, b < 0 ∨ 0 ≤ b := fun b => Or.inr (Nat.zero_le _)
  have s1 := h.s.kx k cS (z _)
  have f1 := h.fs.kx k cS
  have ty1 := h.ty.kx k cS (z _)
  have r1 := h.r.kx k cR (z _)
  have p1 := h.p.kx k cP (z _)
  have tp1 := h.tp.kx k cP (z _)
  have fr1 := h.fr.kx k cR
  have tr1 := h.tr.kx k cR (z _)
  have row1 := own_far h.row k (fun b hb2 => hb b (own_tyG h.cow (own_hasTy h.row hb2) (by decide)))
  have kp1 := h.kp.trans (k.kp h.kp.size (Or.inr hn) (Or.inl (Nat.le_refl _)))
  have k2 : Kx bS (bS + 1) 0 0 w' (w'.setCell ⟨bS, 2, none⟩ u') := (Kx.refl _ _ _ _ w').setIn (p := ⟨bS, 2, none⟩) (Nat.le_refl _) (Nat.lt_succ_self _) _
  have dR : bR < bS ∨ bS + 1 ≤ bR := by omega
  have dP : bP < bS ∨ bS + 1 ≤ bP := by omega
  have ne : ∀ b, b ≠ bS → b < bS ∨ bS + 1 ≤ b := fun b h => by omega
  refine ⟨s1, f1, p1.kx k2 dP (z _), tp1.kx k2 dP (z _), s1.set2 _, f1.set _ _, ty1.set _ _, r1.kx k2 dR (z _), fr1.kx k2 dR, tr1.kx k2 dR (z _), own_far row1 k2 (fun b hb2 => ne b (fun e => own_tyG row1 ty1 (by decide) (by rw [hb2, e]))), ?_, kp1.trans (k2.kp kp1.size (Or.inr hw) (Or.inl (Nat.le_refl _)))⟩
  rw [List.length_append, List.map_append]
  exact own_far hrow k2 (fun b hb2 => ne b (fun e => own_tyG hrow ty1 (by decide) (by rw [hb2, e])))
end
theorem ms_start (W : World) (a : Int) (A : Option Addr) (la ca : Nat) (B : Option Addr) (lb cb : Nat) (n : Int) :
    MS W W.heap.size (W.heap.size + 1 + 1) (W.heap.size + 1) a A la ca B lb cb (((W.alloc (.cells #[.int .u8 a, .slice A la ca, .slice B lb cb] 25)).alloc (.cells #[.int .i64 0, .slice none 0 0, .slice none 0 0] 30)).alloc (.cells #[.int .i64 n, .slice none 0 0, .slice none 0 0] 30)) (.slice none 0 0) (.slice none 0 0) n [] [] := by
  have r := (C3.new (W.alloc (.cells #[.int .u8 a, .slice A la ca, .slice B lb cb] 25)) (.int .i64 0) (.slice none 0 0) (.slice none 0 0) 30).alloc (.cells #[.int .i64 n, .slice none 0 0, .slice none 0 0] 30)
  have fr := (Fz.new (W.alloc (.cells #[.int .u8 a, .slice A la ca, .slice B lb cb] 25)) #[.int .i64 0, .slice none 0 0, .slice none 0 0] 30).alloc (.cells #[.int .i64 n, .slice none 0 0, .slice none 0 0] 30)
  have tr := (Ty.new (W.alloc (.cells #[.int .u8 a, .slice A la ca, .slice B lb cb] 25)) #[.int .i64 0, .slice none 0 0, .slice none 0 0] 30).alloc (.cells #[.int .i64 n, .slice none 0 0, .slice none 0 0] 30)
  have s := C3.new ((W.alloc (.cells #[.int .u8 a, .slice A la ca, .slice B lb cb] 25)).alloc (.cells #[.int .i64 0, .slice none 0 0, .slice none 0 0] 30)) (.int .i64 n) (.slice none 0 0) (.slice none 0 0) 30
  have fs := Fz.new ((W.alloc (.cells #[.int .u8 a, .slice A la ca, .slice B lb cb] 25)).alloc (.cells #[.int .i64 0, .slice none 0 0, .slice none 0 0] 30)) #[.int .i64 n, .slice none 0 0, .slice none 0 0] 30
  have ts := Ty.new ((W.alloc (.cells #[.int .u8 a, .slice A la ca, .slice B lb cb] 25)).alloc (.cells #[.int .i64 0, .slice none 0 0, .slice none 0 0] 30)) #[.int .i64 n, .slice none 0 0, .slice none 0 0] 30
  simp only [World.size_alloc] at r fr tr s fs ts
  exact ⟨((C3.new W _ _ _ 25).alloc _).alloc _, ((Ty.new W _ 25).alloc _).alloc _, s, fs, ts, r, fr, tr, World.ownsRow_nil _ _ _ _, World.ownsRow_nil _ _ _ _, (((Kp.refl _ W).alloc (Nat.le_refl _) _).alloc (by simp) _).alloc (by simp; omega) _⟩
theorem bits_shape (M : Nat) (hM : M < 18446744073709551616) (r n : Nat) (hr : r < n) (hn : n ≤ 8) :
    bits .and .u64 (bits .or .u64 (M : Int) (IntKind.u64.wrap (2 ^ r))) (IntKind.u64.wrap (IntKind.u64.wrap (2 ^ n) - 1)) = (((M ||| 2 ^ r) &&& (2 ^ n - 1) : Nat) : Int) := by
  have e1 : IntKind.u64.wrap (2 ^ r) = ((2 ^ r : Nat) : Int) := by
    have : r = 0 ∨ r = 1 ∨ r = 2 ∨ r = 3 ∨ r = 4 ∨ r = 5 ∨ r = 6 ∨ r = 7 := by omega
    rcases this with rfl | rfl | rfl | rfl | rfl | rfl | rfl | rfl <;> decide
  have e2 : IntKind.u64.wrap (IntKind.u64.wrap (2 ^ n) - 1) = ((2 ^ n - 1 : Nat) : Int) := by
    have : n = 1 ∨ n = 2 ∨ n = 3 ∨ n = 4 ∨ n = 5 ∨ n = 6 ∨ n = 7 ∨ n = 8 := by omega
    rcases this with rfl | rfl | rfl | rfl | rfl | rfl | rfl | rfl <;> decide
  have h1 : (2 : Nat) ^ r ≤ 2 ^ 8 := Nat.pow_le_pow_right (by decide) (by omega)
  have h2 : (2 : Nat) ^ n ≤ 2 ^ 8 := Nat.pow_le_pow_right (by decide) (by omega)
  rw [e1, e2, bits_or_u64_nat M (2 ^ r) hM (by omega), bits_and_u64_nat (M ||| 2 ^ r) (2 ^ n - 1) (Nat.or_lt_two_pow (n := 64) hM (by omega)) (by omega)]
theorem mask_facts {m r n : Int} (m0 : 0 ≤ m) (m1 : m ≤ 18446744073709551615) (r0 : 0 ≤ r) (r1 : r < n) (n8 : n ≤ 8) :
    ∃ e : Int, bits .and .u64 (bits .or .u64 m (IntKind.u64.wrap (2 ^ r.toNat))) (IntKind.u64.wrap (IntKind.u64.wrap (2 ^ n.toNat) - 1)) = e ∧ 0 ≤ e ∧ e ≤ 18446744073709551615 ∧ hasB e r = true ∧ e / 2 ^ n.toNat = 0 := by
  obtain ⟨M, rfl⟩ : ∃ M : Nat, m = (M : Int) := ⟨m.toNat, by omega⟩
  obtain ⟨R, rfl⟩ : ∃ R : Nat, r = (R : Int) := ⟨r.toNat, by omega⟩
  obtain ⟨N, rfl⟩ : ∃ N : Nat, n = (N : Int) := ⟨n.toNat, by omega⟩
  have hRN : R < N := by omega
  rw [Int.toNat_natCast, Int.toNat_natCast, bits_shape M (by omega) R N hRN (by omega)]
  have hlt : (M ||| 2 ^ R) &&& (2 ^ N - 1) < 2 ^ N := Nat.lt_of_le_of_lt Nat.and_le_right (Nat.sub_lt (Nat.two_pow_pos _) (by decide))
  have h2 : (2 : Nat) ^ N ≤ 2 ^ 8 := Nat.pow_le_pow_right (by decide) (by omega)
  refine ⟨_, rfl, by omega, by omega, ?_, ?_⟩
  · unfold hasB
    rw [Int.toNat_natCast]
    have ht : ((M ||| 2 ^ R) &&& (2 ^ N - 1)).testBit R = true := by
      rw [Nat.testBit_and, Nat.testBit_or, Nat.testBit_two_pow_self, Nat.testBit_two_pow_sub_one]
      simp [hRN]
    rw [Nat.testBit_eq_decide_div_mod_eq, decide_eq_true_eq] at ht
    rw [beq_iff_eq]
    have := congrArg (fun x : Nat => (x : Int)) ht
    simpa using this
  · generalize (M ||| 2 ^ R) &&& (2 ^ N - 1) = X at hlt
    refine Int.ediv_eq_zero_of_lt (by omega) ?_
    have := Int.ofNat_lt.2 hlt
    simpa using this
theorem MS.tks {W w : World} {bP bS bR la ca lb cb j cv : Nat} {a n : Int} {A B Av : Option Addr} {u : Value} {ts : List Tk} {cur : List Int} (h : MS W bP bS bR a A la ca B lb cb w (.slice Av j cv) u n ts cur) : ts.length = j ∧ j ≤ cv ∧ IsTks w Av j ts := by
  obtain ⟨A', c', e, h1, _, _, hrd, _⟩ := own_form h.row
  cases e
  exact ⟨rfl, h1, hrd.tks rfl⟩
theorem getD_snoc_lt (l : List Int) (x : Int) {k : Nat} (h : k < l.length) : (l ++ [x]).getD k 0 = l.getD k 0 := by
  rw [List.getD_eq_getElem?_getD, List.getD_eq_getElem?_getD, List.getElem?_append_left h]
theorem getD_snoc_eq (l : List Int) (x : Int) : (l ++ [x]).getD l.length 0 = x := by
  rw [List.getD_eq_getElem?_getD, List.getElem?_append_right (Nat.le_refl _), Nat.sub_self]
  rfl
/-- A scene of rows of the call's own. -/
structure RowSc (w : World) (base : Nat) (v : Value) (s : Sc) : Prop where
  ex : ∃ x y, v = .agg #[.int .i64 s.n, x, y] ∧ w.ownsRow base 43 8 x s.ts.length (flatT s.ts) ∧ w.ownsRow base 3 1 y s.cur.length (s.cur.map (Value.int .i64)) ∧ (∀ t ∈ s.ts, t.ok)
theorem RowSc.kp {w w' : World} {base : Nat} {v : Value} {s : Sc} (h : RowSc w base v s) (k : Kp w.heap.size w w') : RowSc w' base v s := by
  obtain ⟨x, y, h1, h2, h3, h4⟩ := h.ex
  exact ⟨x, y, h1, own_kp h2 k, own_kp h3 k, h4⟩
theorem RowSc.own {w : World} {base : Nat} {v : Value} {s : Sc} (h : RowSc w base v s) (hla : s.ts.length ≤ 3000000000000000000) (hlb : s.cur.length ≤ 3000000000000000000) : OwnSc w base v s := by
  obtain ⟨x, y, rfl, h2, h3, h4⟩ := h.ex
  obtain ⟨A, ca, rfl, ha, hra⟩ := own_sl h2
  obtain ⟨B, cb, rfl, hb, hrb⟩ := own_sl h3
  refine ⟨A, ca, B, cb, rfl, ⟨rfl, rfl, hra.tks rfl, hrb.isInts.2, h4, hla, hlb⟩, ha, hb, fun p p' hp hp' e => ?_⟩
  obtain ⟨g, rfl, _, _, _, c1, f1, hh1⟩ := ha.at0 p hp
  obtain ⟨g', rfl, _, _, _, c2, f2, hh2⟩ := hb.at0 p' hp'
  dsimp only at e
  subst e
  rw [hh1] at hh2
  cases hh2
end Go.Proofs.Yticgdfbknaholaa
