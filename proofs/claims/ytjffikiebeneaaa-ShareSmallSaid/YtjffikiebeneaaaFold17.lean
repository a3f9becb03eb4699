/-
  The contracts of Sum and of what it calls: ContainsFunc with Right, fold with Plus or Times.
-/
import Derived.Test.YtjffikiebeneaaaScale17
namespace Go.Proofs.Ytjffikiebeneaaa
open Go.RowKit

def rightP (e : P2) : Bool := rightS e.1 e.2
theorem notRight_t {n d : Int} (W : World) (h : rightS n d = true) : Calls Try.prog 49 #[shr n d] W fun e w' => e = .returned (.bool false) ∧ GrewS W w' := by
  have H := fun W => Lib.hid (right_t W h)
  clear h
  go_enter Try.func49, Try.ntmps49
  go_wp2_with fail
  refine ((H _).out).mono ?_
  rintro e w' ⟨rfl, hg⟩
  go_wp2_with fail
  go_ret
  exact ⟨rfl, ((GrewS.refl W).alloc _).trans hg.s⟩
theorem notRight_f {n d : Int} (W : World) (h : rightS n d = false) : Calls Try.prog 49 #[shr n d] W fun e w' => e = .returned (.bool true) ∧ GrewS W w' := by
  have H := fun W => Lib.hid (right_f W h)
  clear h
  go_enter Try.func49, Try.ntmps49
  go_wp2_with fail
  refine ((H _).out).mono ?_
  rintro e w' ⟨rfl, hg⟩
  go_wp2_with fail
  go_ret
  exact ⟨rfl, ((GrewS.refl W).alloc _).trans hg.s⟩

def SomeNat (W : World) (e : Ending) (w' : World) : Prop := ∃ n : Nat, e = .returned (.int .i64 n) ∧ GrewS W w'

set_option maxHeartbeats 400000 in
theorem index_good (W : World) (A : Option Addr) (len cap : Nat) (es : List P2) (hmax : (len : Int) ≤ 3000000000000000000) (hc : IsPrs W A len es) (hg : ∀ i, i < len → rightP (es.getD i p0) = true) :
    Calls Try.prog 54 #[.slice A len cap, .func (.func 49) #[] #[]] W fun e w' => e = .returned (.int .i64 (-1)) ∧ GrewS W w' := by
  have HG := Lib.hid hg
  have HC := Lib.hid hc
  clear hg hc
  go_enter Try.func54, Try.ntmps54
  go_wp2
  go_loopw [8] (fun i wr => ∃ k : Nat, k ≤ len ∧ i = .int .i64 k ∧ GrewS W wr) (fun i _ => len - (intOf i).toNat)
  case atStart => exact ⟨0, Nat.zero_le _, rfl, GrewS.refl _⟩
  case round =>
    obtain ⟨k, hk, rfl, hgr⟩ := hrel
    by_cases hlt : (k : Int) < len
    · obtain ⟨b, off, rfl, _, c0, c1⟩ := (HC.out.kp hgr.kp) k (by omega)
      have hg := HG.out k (by omega)
      unfold rightP at hg
      generalize (es.getD k p0).1 = v at *
      generalize (es.getD k p0).2 = r at *
      have H := fun W => Lib.hid (notRight_t W hg)
      have HGR := Lib.hid hgr
      clear hg hgr
      go_wp2_with fail
      refine ((H _).out).mono ?_
      rintro e w' ⟨rfl, hg1⟩
      have HGR2 := Lib.hid (HGR.out.trans hg1)
      clear hg1 HGR c0 c1
      go_wp2_with fail
      go_roundw
      case rel => exact ⟨k + 1, by omega, by go_num, HGR2.out⟩
      case measure => simp [intOf]; omega
    · go_wp2_with fail
      go_ret
      exact ⟨rfl, hgr⟩

set_option maxHeartbeats 400000 in
theorem index_bad (W : World) (A : Option Addr) (len cap : Nat) (es : List P2) (hmax : (len : Int) ≤ 3000000000000000000) (hc : IsPrs W A len es)
    (m : Nat) (hm : m < len) (hb : rightP (es.getD m p0) = false) :
    Calls Try.prog 54 #[.slice A len cap, .func (.func 49) #[] #[]] W (SomeNat W) := by
  have HC := Lib.hid hc
  have HB := Lib.hid hb
  clear hb hc
  go_enter Try.func54, Try.ntmps54
  go_wp2
  go_loopw [8] (fun i wr => ∃ k : Nat, k ≤ m ∧ i = .int .i64 k ∧ GrewS W wr) (fun i _ => len - (intOf i).toNat)
  case atStart => exact ⟨0, Nat.zero_le _, rfl, GrewS.refl _⟩
  case round =>
    obtain ⟨k, hk, rfl, hgr⟩ := hrel
    have hlt : (k : Int) < len := by omega
    obtain ⟨b, off, rfl, _, c0, c1⟩ := (HC.out.kp hgr.kp) k (by omega)
    by_cases hw : rightP (es.getD k p0) = true
    · have hkm : k < m := by
        rcases Nat.lt_or_ge k m with h | h
        · exact h
        · have e : k = m := by omega
          rw [e, HB.out] at hw
          cases hw
      unfold rightP at hw
      generalize (es.getD k p0).1 = v at *
      generalize (es.getD k p0).2 = r at *
      have H := fun W => Lib.hid (notRight_t W hw)
      have HGR := Lib.hid hgr
      clear hw hgr
      go_wp2_with fail
      refine ((H _).out).mono ?_
      rintro e w' ⟨rfl, hg1⟩
      have HGR2 := Lib.hid (HGR.out.trans hg1)
      clear hg1 HGR c0 c1
      go_wp2_with fail
      go_roundw
      case rel => exact ⟨k + 1, by omega, by go_num, HGR2.out⟩
      case measure => simp [intOf]; omega
    · have hw' : rightP (es.getD k p0) = false := by simpa using hw
      unfold rightP at hw'
      generalize (es.getD k p0).1 = v at *
      generalize (es.getD k p0).2 = r at *
      have H := fun W => Lib.hid (notRight_f W hw')
      have HGR := Lib.hid hgr
      clear hw hw' hgr
      go_wp2_with fail
      refine ((H _).out).mono ?_
      rintro e w' ⟨rfl, hg1⟩
      have HGR2 := Lib.hid (HGR.out.trans hg1)
      clear hg1 HGR c0 c1
      go_wp2_with fail
      go_ret
      exact ⟨k, rfl, HGR2.out⟩

theorem contains_good (W : World) (A : Option Addr) (len cap : Nat) (es : List P2) (hmax : (len : Int) ≤ 3000000000000000000) (hc : IsPrs W A len es) (hg : ∀ i, i < len → rightP (es.getD i p0) = true) :
    Calls Try.prog 48 #[.slice A len cap, .func (.func 49) #[] #[]] W fun e w' => e = .returned (.bool false) ∧ GrewS W w' := by
  have H := Lib.hid (index_good W A len cap es hmax hc hg)
  clear hc hg
  go_enter Try.func48, Try.ntmps48
  go_wp2_with fail
  refine (H.out).mono ?_
  rintro e w' ⟨rfl, hgr⟩
  go_wp2_with fail
  go_ret
  exact ⟨rfl, hgr⟩

theorem contains_bad (W : World) (A : Option Addr) (len cap : Nat) (es : List P2) (hmax : (len : Int) ≤ 3000000000000000000) (hc : IsPrs W A len es)
    (m : Nat) (hm : m < len) (hb : rightP (es.getD m p0) = false) :
    Calls Try.prog 48 #[.slice A len cap, .func (.func 49) #[] #[]] W fun e w' => e = .returned (.bool true) ∧ GrewS W w' := by
  have H := Lib.hid (index_bad W A len cap es hmax hc m hm hb)
  clear hc hb hm
  go_enter Try.func48, Try.ntmps48
  go_wp2_with fail
  refine (H.out).mono ?_
  rintro e w' ⟨n, rfl, hgr⟩
  go_wp2_with fail
  go_ret
  exact ⟨rfl, hgr⟩

theorem foldS_cons (op : Int → Int → Int → Int → Int × Int × Int) (x y : Int) (s : P2) (l : List P2) : foldS op x y (s :: l) = if (op x y s.1 s.2).2.2 = 0 then foldS op (op x y s.1 s.2).1 (op x y s.1 s.2).2.1 l else (0, 0, (op x y s.1 s.2).2.2) := rfl
theorem drop_consP (es : List P2) (j : Nat) (h : j < es.length) : es.drop j = es.getD j p0 :: es.drop (j + 1) := by
  rw [List.drop_eq_getElem_cons h, List.getD_eq_getElem?_getD, List.getElem?_eq_getElem h]
  rfl

set_option maxRecDepth 100000 in
set_option maxHeartbeats 1000000 in
theorem fold_any {F : Nat} (hF : F = 15 ∨ F = 16) {op : Int → Int → Int → Int → Int × Int × Int} (HOP : ∀ (a b c d : Int) (W : World), Calls Try.prog F #[shr a b, shr c d] W fun e w' => e = .returned (.tuple #[shr (op a b c d).1 (op a b c d).2.1, .int .i64 (op a b c d).2.2]) ∧ GrewS W w')
    (x y : Int) (W : World) (A : Option Addr) (len cap : Nat) (es : List P2) (hlen : es.length = len) (hmax : (len : Int) ≤ 3000000000000000000) (hc : IsPrs W A len es) :
    Calls Try.prog 50 #[shr x y, .func (.func F) #[] #[], .slice A len cap] W fun e w' => e = .returned (.tuple #[shr (foldS op x y es).1 (foldS op x y es).2.1, .int .i64 (foldS op x y es).2.2]) ∧ GrewS W w' := by
  have HC := Lib.hid hc
  have HL := Lib.hid hlen
  have HF := fun a b c d W => Lib.hid (HOP a b c d W)
  clear hc hlen HOP
  rcases hF with rfl | rfl
  all_goals
    go_enter Try.func50, Try.ntmps50
    go_wp2_with fail
    go_loopw [14] (fun i wr => ∃ (j : Nat) (p q : Int), j ≤ len ∧ i = .int .i64 j ∧ GrewS W wr ∧ C2 wr W.heap.size (.int .i64 p) (.int .i64 q) ∧ Fz wr W.heap.size ∧ C2 wr (W.heap.size + 1) (.int .i64 0) (.int .i64 0) ∧ Fz wr (W.heap.size + 1) ∧ foldS op x y es = foldS op p q (es.drop j)) (fun i _ => len - (intOf i).toNat)
    case atStart =>
      have B := B1.new W x y 25
      refine ⟨0, x, y, Nat.zero_le _, rfl, B.G, B.X, ?_, B.R, B.F, rfl⟩
      exact ((Fz.new W _ _).alloc _)
    case round =>
      obtain ⟨j, p, q, hj, rfl, hg, X, FX, R, FR, hE⟩ := hrel
      by_cases hlt : j < len
      · obtain ⟨b, off, rfl, hb, c0, c1⟩ := (HC.out.kp hg.kp) j hlt
        have hS := drop_consP es j (by have := HL.out; omega)
        generalize es.getD j p0 = s at *
        obtain ⟨u, v⟩ := s
        dsimp only at c0 c1
        rw [hS, foldS_cons] at hE
        dsimp only at hE
        have H := fun W => HF p q u v W
        generalize op p q u v = z at *
        obtain ⟨zn, zd, ze⟩ := z
        dsimp only at hE H
        have HE := Lib.hid hE
        have HG := Lib.hid hg
        have X0 := X.c0
        have X1 := X.c1
        have Xl := X.lt
        have hji : (j : Int) < len := by omega
        clear hE hg hS
        go_wp2_with fail
        refine (H _).out.mono ?_
        rintro e w1 ⟨rfl, hg1⟩
        have k1 := hg1.kp
        have HG1 := Lib.hid ((HG.out.alloc _).trans hg1)
        replace X := (X.alloc _).kp k1
        replace FX := (FX.alloc _).kp k1
        replace R := (R.alloc _).kp k1
        replace FR := (FR.alloc _).kp k1
        clear k1 hg1 HG c0 c1 X0 X1 Xl H
        have R0 := R.c0
        have R1 := R.c1
        have Rl := R.lt
        have FR2 := FR.2
        have X0 := X.c0
        have X1 := X.c1
        have Xl := X.lt
        have FX2 := FX.2
        by_cases hz : ze = 0
        · subst hz
          have HE2 := Lib.hid (HE.out.trans (if_pos rfl))
          clear HE
          go_wp2_with fail
          go_roundw
          case rel =>
            refine ⟨j + 1, zn, zd, by omega, by go_num, ?_, ?_, ?_, ?_, ?_, HE2.out⟩
            · exact (HG1.out.set2 (B := W.heap.size) (Nat.le_refl _) _ _).alloc _
            · exact (X.set _ _).alloc _
            · exact ((FX.set _ _).set _ _).alloc _
            · exact (R.far2 (p := W.heap.size) (by omega) _ _).alloc _
            · exact ((FR.set _ _).set _ _).alloc _
          case measure => simp [intOf]; omega
        · have hz1 : (ze == 0) = false := beq_eq_false_iff_ne.2 hz
          have HE2 := Lib.hid (HE.out.trans (if_neg hz))
          clear HE
          go_wp2_with fail
          exact bodyPost_ret (v := .tuple #[shr 0 0, .int .i64 ze]) (by simp [results, Try.results50, go_sem, R0, R1, Rl]) rfl ⟨by rw [HE2.out], (HG1.out.set2 (B := W.heap.size + 1) (by omega) _ _).alloc _⟩
      · have hje : j = len := by omega
        have hno : ¬ (j : Int) < len := by omega
        have hE2 : foldS op x y es = (p, q, 0) := by
          rw [hE, List.drop_eq_nil_of_le (by have := HL.out; omega)]
          rfl
        have HG := Lib.hid hg
        have R0 := R.c0
        have R1 := R.c1
        have FR2 := FR.2
        have X0 := X.c0
        have X1 := X.c1
        have HE2 := Lib.hid hE2
        clear hE hE2 hg hje hlt
        go_wp2_with fail
        exact bodyPost_ret (v := .tuple #[shr p q, .int .i64 0]) (by simp [results, Try.results50, go_sem, R0, R1]) rfl ⟨by rw [HE2.out], HG.out.set2 (B := W.heap.size + 1) (by omega) _ _⟩

/-- A list with a share that is not right has a first such. -/
theorem first_bad : ∀ (es : List P2), rights es = false → ∃ m, m < es.length ∧ rightP (es.getD m p0) = false ∧ ∀ i, i < m → rightP (es.getD i p0) = true
  | [], h => by cases h
  | e :: es, h => by
    cases he : rightP e with
    | false => exact ⟨0, by simp, he, fun i hi => absurd hi (Nat.not_lt_zero i)⟩
    | true =>
      have h2 : rights es = false := by
        unfold rights at *
        rw [List.all_cons] at h
        change (rightP e && _) = false at h
        rwa [he, Bool.true_and] at h
      obtain ⟨m, h3, h4, h5⟩ := first_bad es h2
      refine ⟨m + 1, by simp; omega, h4, fun i hi => ?_⟩
      cases i with
      | zero => exact he
      | succ i => exact h5 i (by omega)
theorem all_right {es : List P2} (h : rights es = true) {i : Nat} (hi : i < es.length) : rightP (es.getD i p0) = true := by
  refine List.all_eq_true.1 h (es.getD i p0) ?_
  rw [List.getD_eq_getElem?_getD, List.getElem?_eq_getElem hi]
  exact List.getElem_mem _

set_option maxHeartbeats 400000 in
theorem sum_any (W : World) (A : Option Addr) (len cap : Nat) (es : List P2) (hlen : es.length = len) (hmax : (len : Int) ≤ 3000000000000000000) (hc : IsPrs W A len es) :
    Calls Try.prog 24 #[.slice A len cap] W fun e w' => e = .returned (.tuple #[shr (sum3 es).1 (sum3 es).2.1, .int .i64 (sum3 es).2.2]) ∧ GrewS W w' := by
  cases hr : rights es with
  | true =>
    have e1 : sum3 es = foldS plus3 0 1 es := by unfold sum3; rw [hr]; rfl
    rw [e1]
    have H1 := fun w (k : Kp W.heap.size W w) => Lib.hid (contains_good w A len cap es hmax (hc.kp k) (fun i hi => all_right hr (by omega)))
    have H2 := fun w (k : Kp W.heap.size W w) => Lib.hid (fold_any (F := 15) (Or.inl rfl) (op := plus3) (fun a b c d W => plus_any a b c d W) 0 1 w A len cap es hlen hmax (hc.kp k))
    generalize foldS plus3 0 1 es = z at *
    obtain ⟨zn, zd, ze⟩ := z
    dsimp only at H2
    clear hr e1 hc
    go_enter Try.func24, Try.ntmps24
    go_wp2_with fail
    refine (H1 _ ((Kp.refl _ _).alloc (Nat.le_refl _) _)).out.mono ?_
    rintro e w1 ⟨rfl, hg1⟩
    have HG := Lib.hid (((GrewS.refl W).alloc (.cells #[.int .i64 0, .int .i64 0] 25)).trans hg1)
    have R : C2 w1 W.heap.size (.int .i64 0) (.int .i64 0) := (C2.new W _ _ _).kp hg1.kp
    have F : Fz w1 W.heap.size := (Fz.new W _ _).kp hg1.kp
    clear hg1 H1
    go_wp2_with fail
    refine (H2 _ HG.out.kp).out.mono ?_
    rintro e w2 ⟨rfl, hg1⟩
    have HG2 := Lib.hid (HG.out.trans hg1)
    replace R := R.kp hg1.kp
    replace F := F.kp hg1.kp
    have R0 := R.c0
    have R1 := R.c1
    have F2 := F.2
    clear hg1 H2 HG R F
    go_wp2_with fail
    exact bodyPost_ret (v := .tuple #[shr zn zd, .int .i64 ze]) (by simp [results, Try.results24, go_sem, R0, R1]) rfl ⟨rfl, HG2.out.set2 (B := W.heap.size) (Nat.le_refl _) _ _⟩
  | false =>
    have e1 : sum3 es = (0, 0, 2) := by unfold sum3; rw [hr]; rfl
    rw [e1]
    obtain ⟨m, hm, hb, _⟩ := first_bad es hr
    have H1 := fun w (k : Kp W.heap.size W w) => Lib.hid (contains_bad w A len cap es hmax (hc.kp k) m (by omega) hb)
    clear hr e1 hc hm hb
    go_enter Try.func24, Try.ntmps24
    go_wp2_with fail
    refine (H1 _ ((Kp.refl _ _).alloc (Nat.le_refl _) _)).out.mono ?_
    rintro e w1 ⟨rfl, hg1⟩
    have HG := Lib.hid (((GrewS.refl W).alloc (.cells #[.int .i64 0, .int .i64 0] 25)).trans hg1)
    have R : C2 w1 W.heap.size (.int .i64 0) (.int .i64 0) := (C2.new W _ _ _).kp hg1.kp
    have F : Fz w1 W.heap.size := (Fz.new W _ _).kp hg1.kp
    have R0 := R.c0
    have R1 := R.c1
    have F2 := F.2
    clear hg1 H1 R F
    go_wp2_with fail
    exact bodyPost_ret (v := .tuple #[shr 0 0, .int .i64 2]) (by simp [results, Try.results24, go_sem, R0, R1]) rfl ⟨rfl, HG.out.set2 (B := W.heap.size) (Nat.le_refl _) _ _⟩
end Go.Proofs.Ytjffikiebeneaaa
