/-
  The law's own 'many': All and Through against the reference's, on lists of entities and floors.
-/
import Derived.Test.YtmlapjaccmoleaaRefAll
import Derived.Test.YtmlapjaccmoleaaRefThr
import Derived.Test.YtmlapjaccmoleaaFloor2
import Derived.Test.YtmlapjaccmoleaaAllLaw
import Derived.Deep.CutRange
namespace Go.Proofs.Ytmlapjaccmoleaa
open Go.RowKit

/-- What All gives of a list. -/
def allXs (f t : Int) (es : List E3) : List E3 := if es.all rightE then es.map (mvE f t) else []
def AnyPost (W : World) (ty : TypeId) (xs : List E3) (E : Int) (e : Ending) (w' : World) : Prop :=
  ∃ v, e = .returned (.tuple #[v, .int .i64 E]) ∧ w'.ownsRow W.heap.size ty 3 v xs.length (flat xs) ∧ Kp W.heap.size W w'
theorem all_any {f t : Int} (W : World) (A : Option Addr) (len cap : Nat) (es : List E3) (hlen : es.length = len) (hmax : len ≤ 100) (hc : IsEnts W A len es) (hE : EBs es)
    (f0 : 0 ≤ f ∧ f ≤ 18446744073709551615) (t0 : 0 ≤ t ∧ t ≤ 18446744073709551615) :
    Calls Try.prog 42 #[.slice A len cap, .int .u64 f, .int .u64 t] W (AnyPost W 25 (allXs f t es) (flE es)) := by
  rcases good_or_bad es with ⟨h1, h2⟩ | ⟨h1, m, h2, h3, h4⟩
  · refine (all_t W A len cap es hlen hmax hc hE (by rw [← hlen]; exact h1) f0 t0).mono fun e w' ⟨v, he, ho, hk⟩ => ⟨v, ?_, ?_, hk⟩
    · rw [he, flE, h2]; rfl
    · rw [allXs, h2]; exact ho
  · refine (all_f W A len cap es hlen hmax hc hE m (by omega) h3 h4 f0 t0).mono fun e w' ⟨he, hk⟩ => ⟨.slice none 0 0, ?_, ?_, hk⟩
    · rw [he, flE, h1]; rfl
    · rw [allXs, h1]; exact World.ownsRow_nil _ _ _ _
theorem refAll_any {f t : Int} (W : World) (A : Option Addr) (len cap : Nat) (es : List E3) (hlen : es.length = len) (hmax : len ≤ 100) (hc : IsEnts W A len es) (hE : EBs es)
    (f0 : 0 ≤ f ∧ f ≤ 18446744073709551615) (t0 : 0 ≤ t ∧ t ≤ 18446744073709551615) :
    Calls Try.prog 65 #[.slice A len cap, .int .u64 f, .int .u64 t] W (AnyPost W 74 (allXs f t es) (flE es)) := by
  rcases good_or_bad es with ⟨h1, h2⟩ | ⟨h1, m, h2, h3, h4⟩
  · refine (refAll_t W A len cap es hlen hmax hc hE (by rw [← hlen]; exact h1) f0 t0).mono fun e w' ⟨v, he, ho, hk⟩ => ⟨v, ?_, ?_, hk⟩
    · rw [he, flE, h2]; rfl
    · rw [allXs, h2]; exact ho
  · refine (refAll_f W A len cap es hlen hmax hc hE m (by omega) h3 h4 f0 t0).mono fun e w' ⟨he, hk⟩ => ⟨.slice none 0 0, ?_, ?_, hk⟩
    · rw [he, flE, h1]; rfl
    · rw [allXs, h1]; exact World.ownsRow_nil _ _ _ _
theorem allXs_len (f t : Int) (es : List E3) : (allXs f t es).length ≤ es.length := by unfold allXs; split <;> simp
theorem through_any {v r w : Int} (W : World) (b : EB v r w) (A : Option Addr) (len cap : Nat) (fs : List Int) (hmax : (len : Int) ≤ 3000000000000000000) (hc : IsInts W .u64 A len fs) (hf : U64s fs) :
    Calls Try.prog 36 #[ent v r w, .slice A len cap] W fun e w' => e = .returned (.tuple #[ent (iff (rightB v r w) (thAt v r fs (len - 1)).1) (iff (rightB v r w) (thAt v r fs (len - 1)).2) (iff (rightB v r w) w), .int .i64 (xE v r w)]) ∧ GrewS W w' := by
  cases h : rightB v r w with
  | true => exact (through_t W b h A len cap fs hmax hc hf).mono fun e w' ⟨he, hw⟩ => ⟨he.trans (retE2 rfl rfl rfl (xE_t h).symm), hw⟩
  | false => exact (through_f W b h A len cap).mono fun e w' ⟨he, hw⟩ => ⟨he.trans (retE2 rfl rfl rfl (xE_f h).symm), hw⟩
theorem refThrough_any {v r w : Int} (W : World) (b : EB v r w) (A : Option Addr) (len cap : Nat) (fs : List Int) (hmax : (len : Int) ≤ 3000000000000000000) (hc : IsInts W .u64 A len fs) (hf : U64s fs) :
    Calls Try.prog 66 #[ent v r w, .slice A len cap] W fun e w' => e = .returned (.tuple #[ent (iff (rightB v r w) (thAt v r fs (len - 1)).1) (iff (rightB v r w) (thAt v r fs (len - 1)).2) (iff (rightB v r w) w), .int .i64 (xE v r w)]) ∧ GrewS W w' := by
  cases h : rightB v r w with
  | true => exact (refThrough_t W b h A len cap fs hmax hc hf).mono fun e w' ⟨he, hw⟩ => ⟨he.trans (retE2 rfl rfl rfl (xE_t h).symm), hw⟩
  | false => exact (refThrough_f W b h A len cap).mono fun e w' ⟨he, hw⟩ => ⟨he.trans (retE2 rfl rfl rfl (xE_f h).symm), hw⟩

/-- Three stores into one block. -/
abbrev put3 (w : World) (g o : Nat) (a b c : Value) : World := ((w.setCell ⟨g, o, none⟩ a).setCell ⟨g, o + 1, none⟩ b).setCell ⟨g, o + 2, none⟩ c
theorem put3_far (w : World) (g o : Nat) (a b c : Value) {p : Addr} (hp : ⟨g, o, none⟩ ≠ p ∧ ⟨g, o + 1, none⟩ ≠ p ∧ ⟨g, o + 2, none⟩ ≠ p) : (put3 w g o a b c).cell? p = w.cell? p := by
  unfold put3
  rw [World.cell?_setCell_other _ _ _ _ hp.2.2, World.cell?_setCell_other _ _ _ _ hp.2.1, World.cell?_setCell_other _ _ _ _ hp.1]
theorem IsEnts.put (g o : Nat) (a b c : Value) {w : World} {A : Option Addr} {n : Nat} {xs : List E3} (h : IsEnts w A n xs) (hne : ∀ b off, A = some ⟨b, off, none⟩ → g ≠ b) : IsEnts (put3 w g o a b c) A n xs := by
  intro i hi
  obtain ⟨b', off, rfl, h2, h3, h4, h5⟩ := h i hi
  have := hne b' off rfl
  have hf : ∀ q, (put3 w g o a b c).cell? ⟨b', q, none⟩ = w.cell? ⟨b', q, none⟩ := fun q => put3_far w g o a b c ⟨fun e => this (by cases e; rfl), fun e => this (by cases e; rfl), fun e => this (by cases e; rfl)⟩
  exact ⟨b', off, rfl, by simpa using h2, (hf _).trans h3, (hf _).trans h4, (hf _).trans h5⟩
/-- The entities of a row from number k on, in a block from lo on and before hi. -/
def EntsFrom (w : World) (A : Option Addr) (lo hi k n : Nat) (xs : List E3) : Prop :=
  ∀ i, k ≤ i → i < n → ∃ g off, A = some ⟨g, off, none⟩ ∧ lo ≤ g ∧ g < hi ∧ w.cell? ⟨g, off + i * 3, none⟩ = some (.int .u64 (xs.getD i e0).1) ∧
    w.cell? ⟨g, off + i * 3 + 1, none⟩ = some (.int .u32 (xs.getD i e0).2.1) ∧ w.cell? ⟨g, off + i * 3 + 2, none⟩ = some (.int .u32 (xs.getD i e0).2.2) ∧ ∀ o, w.frozen? ⟨g, o, none⟩ = false
theorem EntsFrom.kp {w w' : World} {A : Option Addr} {lo hi k n : Nat} {xs : List E3} (h : EntsFrom w A lo hi k n xs) (hk : Kp hi w w') : EntsFrom w' A lo hi k n xs := by
  intro i h1 h2
  obtain ⟨g, off, rfl, h3, h4, c0, c1, c2, hz⟩ := h i h1 h2
  exact ⟨g, off, rfl, h3, h4, (hk.cell (p := ⟨g, _, none⟩) h4).trans c0, (hk.cell (p := ⟨g, _, none⟩) h4).trans c1, (hk.cell (p := ⟨g, _, none⟩) h4).trans c2, fun o => (hk.frozen (p := ⟨g, o, none⟩) h4).trans (hz o)⟩
theorem EntsFrom.put {w : World} {lo hi k n g off : Nat} {xs : List E3} (a b c : Value) (h : EntsFrom w (some ⟨g, off, none⟩) lo hi k n xs) : EntsFrom (put3 w g (off + k * 3) a b c) (some ⟨g, off, none⟩) lo hi (k + 1) n xs := by
  intro i h1 h2
  obtain ⟨g', off', he, h3, h4, c0, c1, c2, hz⟩ := h i (by omega) h2
  cases he
  have hf : ∀ q, off + k * 3 + 2 < q → (put3 w g (off + k * 3) a b c).cell? ⟨g, q, none⟩ = w.cell? ⟨g, q, none⟩ := fun q hq => put3_far _ _ _ _ _ _ ⟨fun e => by cases e; omega, fun e => by cases e; omega, fun e => by cases e; omega⟩
  refine ⟨g, off, rfl, h3, h4, (hf _ (by omega)).trans c0, (hf _ (by omega)).trans c1, (hf _ (by omega)).trans c2, fun o => by simpa using hz o⟩
theorem EntsFrom.putFar {w : World} {A : Option Addr} {lo hi k n : Nat} {xs : List E3} (g o : Nat) (a b c : Value) (h : EntsFrom w A lo hi k n xs) (hg : g < lo) : EntsFrom (put3 w g o a b c) A lo hi k n xs := by
  intro i h1 h2
  obtain ⟨g', off', rfl, h3, h4, c0, c1, c2, hz⟩ := h i h1 h2
  have hne : g ≠ g' := by omega
  have hf : ∀ q, (put3 w g o a b c).cell? ⟨g', q, none⟩ = w.cell? ⟨g', q, none⟩ := fun q => put3_far _ _ _ _ _ _ ⟨fun e => hne (by cases e; rfl), fun e => hne (by cases e; rfl), fun e => hne (by cases e; rfl)⟩
  exact ⟨g', off', rfl, h3, h4, (hf _).trans c0, (hf _).trans c1, (hf _).trans c2, fun o => by simpa using hz o⟩
theorem Kp.put {B : Nat} {a w : World} (h : Kp B a w) {g : Nat} (hg : B ≤ g) (o : Nat) (x y z : Value) : Kp B a (put3 w g o x y z) :=
  ((h.setCell (p := ⟨g, o, none⟩) hg x).setCell (p := ⟨g, o + 1, none⟩) hg y).setCell (p := ⟨g, o + 2, none⟩) hg z
theorem own_from {w : World} {base : Nat} {ty : TypeId} {n : Nat} {v : Value} {xs : List E3} (hl : xs.length = n) (h : w.ownsRow base ty 3 v n (flat xs)) :
    ∃ A c, v = .slice A n c ∧ n ≤ c ∧ c ≤ maxLen ∧ EntsFrom w A base w.heap.size 0 n xs := by
  obtain ⟨A, c, rfl, h1, h2, _, hrd, hb⟩ := own_form h
  refine ⟨A, c, rfl, h1, h2, fun i _ hi => ?_⟩
  obtain ⟨g, off, rfl, h4, c0, c1, c2⟩ := hrd.ents hl i hi
  obtain ⟨g', e, h5, h6⟩ := hb _ rfl
  cases e
  refine ⟨g, 0, rfl, h5, h6, c0, c1, c2, fun o => ?_⟩
  rcases h.2 with ⟨h7, _⟩ | ⟨g2, cap, cur, h7, _, hh, _⟩
  · cases h7
  · cases h7
    exact frozen_of_row w g o cur ty hh
end Go.Proofs.Ytmlapjaccmoleaa
