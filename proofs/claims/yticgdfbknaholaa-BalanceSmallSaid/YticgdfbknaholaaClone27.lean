/-
  The contracts of the clones of tasks, of whole numbers, of a scene.
-/
import Derived.Test.YticgdfbknaholaaPull27
namespace Go.Proofs.Yticgdfbknaholaa
open Go.RowKit

/-- An own row is handed back. -/
def OwnPost (W : World) (t : TypeId) (sz n : Nat) (xs : List Value) (e : Ending) (w' : World) : Prop := ∃ v, e = .returned v ∧ w'.ownsRow W.heap.size t sz v n xs ∧ Kp W.heap.size W w'
theorem tk_info : (Try.prog.info? 43).map (fun i => (i.zero, i.size, i.bytes)) = some (some (tkv t0), 8, 64) := by kernel_rfl
theorem oneCellsT (ts : List Tk) : ∀ u ∈ flatT ts, u.oneCell' = true := by
  intro u hu
  obtain ⟨e, _, h⟩ := List.mem_flatMap.1 hu
  simp only [Tk.cells, List.mem_cons, List.not_mem_nil, or_false] at h
  rcases h with rfl | rfl | rfl | rfl | rfl | rfl | rfl | rfl <;> rfl
theorem oneCellsI {k : IntKind} (l : List Int) : ∀ u ∈ l.map (Value.int k), u.oneCell' = true := by
  intro u hu
  obtain ⟨z, _, rfl⟩ := List.mem_map.1 hu
  rfl
set_option maxRecDepth 100000 in
theorem cloneI_any (W : World) (A : Option Addr) (len cap : Nat) (zs : List Int) (hlen : zs.length = len) (hcap : A = none → cap = 0 ∧ len = 0) (hc : IsInts W .i64 A len zs) (hbig : len * 8 ≤ 140737488355328) :
    Calls Try.prog 51 #[.slice A len cap] W (OwnPost W 3 1 len (zs.map (Value.int .i64))) := by
  have q : ∀ (w : World) (a : Option Addr) (n c n' c' : Nat), (binOp .eql 28 (.slice a n c) (.slice none n' c')).run Try.prog w = .ok (.bool a.isNone) w := fun w a n c n' c' => Lib.run_eql_slice_nil w _ _ a n c n' c' Try.underlying28
  obtain ⟨i0, hi, hz0, hz1, hz2⟩ := info_parts int_info
  have HR := Lib.hid (Rd.ints hlen hc)
  have HL := Lib.hid hlen
  clear hc hlen
  rcases A with _ | ad
  · obtain ⟨rfl, rfl⟩ := hcap rfl
    have HX := Lib.hid (show (zs.map (Value.int .i64)) = [] by rw [List.eq_nil_of_length_eq_zero HL.out]; rfl)
    go_enter Try.func51, Try.ntmps51
    go_wp2
    go_ret
    exact ⟨_, rfl, by rw [HX.out]; exact World.ownsRow_nil _ _ _ _, Kp.refl _ _⟩
  · clear hcap
    go_enter Try.func51, Try.ntmps51
    go_wp2_with (at_builtin; refine wpList_append_rd _ rfl _ _ 28 rfl W.heap.size 3 i0 (.int .i64 0) 1 8 Try.underlying28 hi hz0 hz1 hz2 rfl (by decide) _ _ _ rfl (World.ownsRow_made W #[] 0 (Nat.le_refl _) (Nat.zero_le _) rfl) (some ad) len cap (zs.map (Value.int .i64)) rfl ?qc2 (oneCellsI zs) ?qc4 ?qc5 ?qc6 ?_)
    case qc2 => exact HR.out.kp ((Kp.refl _ _).alloc (Nat.le_refl _) _)
    case qc4 => unfold maxLen; omega
    case qc5 => omega
    case qc6 => simp
    intro v' w1 hown hgrow
    go_wp2
    go_ret
    refine ⟨v', rfl, by simpa using hown, ?_⟩
    exact ((Kp.refl _ W).alloc (Nat.le_refl _) _).grown hgrow (by simp) (by intro k hk; simp [Value.ownBlock] at hk; omega)
set_option maxRecDepth 100000 in
theorem cloneT_any (W : World) (A : Option Addr) (len cap : Nat) (ts : List Tk) (hlen : ts.length = len) (hcap : A = none → cap = 0 ∧ len = 0) (hc : IsTks W A len ts) (hbig : len * 64 ≤ 140737488355328) :
    Calls Try.prog 50 #[.slice A len cap] W (OwnPost W 43 8 len (flatT ts)) := by
  have q : ∀ (w : World) (a : Option Addr) (n c n' c' : Nat), (binOp .eql 27 (.slice a n c) (.slice none n' c')).run Try.prog w = .ok (.bool a.isNone) w := fun w a n c n' c' => Lib.run_eql_slice_nil w _ _ a n c n' c' Try.underlying27
  obtain ⟨i0, hi, hz0, hz1, hz2⟩ := info_parts tk_info
  have HR := Lib.hid (hc.rd hlen)
  have HL := Lib.hid hlen
  clear hc hlen
  rcases A with _ | ad
  · obtain ⟨rfl, rfl⟩ := hcap rfl
    have HX := Lib.hid (show flatT ts = [] by rw [List.eq_nil_of_length_eq_zero HL.out]; rfl)
    go_enter Try.func50, Try.ntmps50
    go_wp2
    go_ret
    exact ⟨_, rfl, by rw [HX.out]; exact World.ownsRow_nil _ _ _ _, Kp.refl _ _⟩
  · clear hcap
    go_enter Try.func50, Try.ntmps50
    go_wp2_with (at_builtin; refine wpList_append_rd _ rfl _ _ 27 rfl W.heap.size 43 i0 (tkv t0) 8 64 Try.underlying27 hi hz0 hz1 hz2 rfl (by decide) _ _ _ rfl (World.ownsRow_made W #[] 0 (Nat.le_refl _) (Nat.zero_le _) rfl) (some ad) len cap (flatT ts) rfl ?qc2 (oneCellsT ts) ?qc4 ?qc5 ?qc6 ?_)
    case qc2 => exact HR.out.kp ((Kp.refl _ _).alloc (Nat.le_refl _) _)
    case qc4 => unfold maxLen; omega
    case qc5 => omega
    case qc6 => simp
    intro v' w1 hown hgrow
    go_wp2
    go_ret
    refine ⟨v', rfl, by simpa using hown, ?_⟩
    exact ((Kp.refl _ W).alloc (Nat.le_refl _) _).grown hgrow (by simp) (by intro k hk; simp [Value.ownBlock] at hk; omega)
/-- A block of cells of a type. -/
def Ty (w : World) (b : Nat) (t : TypeId) : Prop := ∃ c fr, w.heap[b]? = some (.cells c t fr)
theorem Ty.blk {w w' : World} {b : Nat} {t : TypeId} (h : Ty w b t) (hb : w'.heap[b]? = w.heap[b]?) : Ty w' b t := by
  obtain ⟨c, fr, h⟩ := h
  exact ⟨c, fr, hb.trans h⟩
theorem Ty.lt {w : World} {b : Nat} {t : TypeId} (h : Ty w b t) : b < w.heap.size := by
  obtain ⟨c, fr, h⟩ := h
  exact (Array.getElem?_eq_some_iff.1 h).1
theorem Ty.kp {w w' : World} {b : Nat} {t : TypeId} (h : Ty w b t) (k : Kp w.heap.size w w') : Ty w' b t := h.blk (k.block b h.lt)
theorem Ty.kpB {w w' : World} {b B : Nat} {t : TypeId} (h : Ty w b t) (k : Kp B w w') (hb : b < B) : Ty w' b t := h.blk (k.block b hb)
theorem Ty.kx {w w' : World} {b : Nat} {t : TypeId} {n1 n2 m1 m2 : Nat} (h : Ty w b t) (k : Kx n1 n2 m1 m2 w w') (hb : b < n1 ∨ n2 ≤ b) (hm : b < m1 ∨ m2 ≤ b) : Ty w' b t := h.blk (k.block b h.lt hb hm)
theorem Ty.new (w : World) (c : Array Value) (t : TypeId) : Ty (w.alloc (.cells c t)) w.heap.size t := ⟨c, (0, 0), heap_alloc_new w _⟩
theorem Ty.alloc {w : World} {b : Nat} {t : TypeId} (h : Ty w b t) (o : Obj) : Ty (w.alloc o) b t := h.kp ((Kp.refl _ _).alloc (Nat.le_refl _) o)
theorem Ty.set {w : World} {b : Nat} {t : TypeId} (h : Ty w b t) (a : Addr) (v : Value) : Ty (w.setCell a v) b t := by
  by_cases e : b = a.block
  · obtain ⟨c, fr, h⟩ := h
    subst e
    obtain ⟨hlt, h2⟩ := Array.getElem?_eq_some_iff.1 h
    refine ⟨if a.spot.isSome = true then c else c.setIfInBounds a.off v, fr, ?_⟩
    show (w.heap.modify a.block _)[a.block]? = _
    rw [Array.getElem?_eq_getElem (by rw [Array.size_modify]; exact hlt), Array.getElem_modify_self, h2]
  · exact h.blk (Below.heap_setCell _ _ _ _ e)
/-- A slice value of the call's own. -/
structure OwnSl (w : World) (base : Nat) (t : TypeId) (A : Option Addr) (n c : Nat) : Prop where
  le : n ≤ c
  max : c ≤ maxLen
  nil : A = none → c = 0
  at0 : ∀ p, A = some p → ∃ g, p = ⟨g, 0, none⟩ ∧ base ≤ g ∧ g < w.heap.size ∧ (∀ o, w.frozen? ⟨g, o, none⟩ = false) ∧ Ty w g t
theorem OwnSl.kp {w w' : World} {base : Nat} {t : TypeId} {A : Option Addr} {n c : Nat} (h : OwnSl w base t A n c) (k : Kp w.heap.size w w') : OwnSl w' base t A n c :=
  ⟨h.le, h.max, h.nil, fun p hp => by
    obtain ⟨g, h1, h2, h3, h4, h5⟩ := h.at0 p hp
    exact ⟨g, h1, h2, Nat.lt_of_lt_of_le h3 k.size, fun o => (k.frozen (p := ⟨g, o, none⟩) h3).trans (h4 o), h5.kp k⟩⟩
theorem own_sl {w : World} {base : Nat} {e : TypeId} {sz n : Nat} {v : Value} {xs : List Value} (h : w.ownsRow base e sz v n xs) :
    ∃ A c, v = .slice A n c ∧ OwnSl w base e A n c ∧ Rd w sz A n xs := by
  obtain ⟨A, c, h1, h2, h3, h4, h5, h6⟩ := own_form h
  refine ⟨A, c, h1, ⟨h2, h3, h4, fun p hp => ?_⟩, h5⟩
  obtain ⟨g, g1, g2, g3⟩ := h6 p hp
  have key : ∃ cur, w.heap[g]? = some (.cells cur e (0, 0)) := by
    rcases h.2 with ⟨e1, _⟩ | ⟨g', cap, cur, e1, hb, hh, _⟩
    · rw [h1] at e1
      cases e1
      cases hp
    · rw [h1] at e1
      cases e1
      rw [g1] at hp
      cases hp
      exact ⟨_, hh⟩
  obtain ⟨cur, hh⟩ := key
  exact ⟨g, g1, g2, g3, fun o => frozen_of_row w g o _ _ hh, ⟨_, _, hh⟩⟩
theorem IsTks.nil0 {w : World} {A : Option Addr} {n : Nat} {ts : List Tk} (h : IsTks w A n ts) (hA : A = none) : n = 0 := by
  rcases Nat.eq_zero_or_pos n with h1 | h1
  · exact h1
  · obtain ⟨b, off, e, _⟩ := h 0 h1
    rw [hA] at e
    cases e
theorem isInts_nil0 {w : World} {k : IntKind} {A : Option Addr} {n : Nat} {zs : List Int} (h : IsInts w k A n zs) (hA : A = none) : n = 0 := by
  rcases Nat.eq_zero_or_pos n with h1 | h1
  · exact h1
  · obtain ⟨b, off, e, _⟩ := h 0 h1
    rw [hA] at e
    cases e
end Go.Proofs.Yticgdfbknaholaa
