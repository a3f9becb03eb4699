/-
  The contracts of loads and Loads.
-/
import Derived.Test.YticgdfbknaholaaRight27
namespace Go.Proofs.Yticgdfbknaholaa
open Go.RowKit

/-- The load of a CPU. -/
def loadV : List Tk → Nat → Int
  | [], _ => 0
  | t :: ts, c => (if t.rdy && t.cpu.toNat == c then t.wt else 0) + loadV ts c
theorem loadV_app : ∀ (ts us : List Tk) (c : Nat), loadV (ts ++ us) c = loadV ts c + loadV us c
  | [], us, c => by simp [loadV]
  | t :: ts, us, c => by simp only [List.cons_append, loadV, loadV_app ts us c]; omega
theorem loadV_snoc (ts : List Tk) (t : Tk) (c : Nat) : loadV (ts ++ [t]) c = loadV ts c + (if t.rdy && t.cpu.toNat == c then t.wt else 0) := by
  rw [loadV_app]
  simp [loadV]
/-- What holds of each task of a right scene. -/
structure Tk.fit (n : Int) (t : Tk) : Prop where
  cpu0 : 0 ≤ t.cpu
  cpu1 : t.cpu < n
  id0 : 0 < t.id
  id1 : t.id ≤ 65535
  wt0 : 1 ≤ t.wt
  wt1 : t.wt ≤ 65536
  has : hasB t.mask t.cpu = true
theorem rightsT_fit {n : Int} : ∀ {last : Int} {ts : List Tk}, 0 ≤ last → rightsT n last ts = true → ∀ t ∈ ts, t.fit n
  | _, [], _, _ => fun t h => by cases h
  | last, a :: ts, h0, h => fun t ht => by
    simp only [rightsT, Bool.and_eq_true] at h
    obtain ⟨p0, p1, p2, p3, p4, p5, p6⟩ := rightT_cpu h.1
    rcases List.mem_cons.1 ht with rfl | h2
    · exact ⟨p0, p1, by omega, p3, p4, p5, p6⟩
    · exact rightsT_fit (by omega) h.2 t h2
theorem rightsT_len {n : Int} : ∀ {last : Int} {ts : List Tk}, last ≤ 65535 → rightsT n last ts = true → (ts.length : Int) ≤ 65535 - last
  | _, [], h0, _ => by simp; omega
  | last, a :: ts, h0, h => by
    simp only [rightsT, Bool.and_eq_true] at h
    obtain ⟨p0, p1, p2, p3, p4, p5, p6⟩ := rightT_cpu h.1
    have := rightsT_len (by omega) h.2
    rw [List.length_cons]
    omega
theorem loadV_bd {n : Int} : ∀ {ts : List Tk} (c : Nat), (∀ t ∈ ts, t.fit n) → 0 ≤ loadV ts c ∧ loadV ts c ≤ ts.length * 65536
  | [], c, _ => by simp [loadV]
  | t :: ts, c, h => by
    obtain ⟨h1, h2⟩ := loadV_bd (ts := ts) c (fun t ht => h t (List.mem_cons_of_mem _ ht))
    have h3 := h t List.mem_cons_self
    have h4 := h3.wt0
    have h5 := h3.wt1
    simp only [loadV, List.length_cons]
    split <;> omega
/-- What rightness of a scene says. -/
structure Sc.fit (s : Sc) : Prop where
  n1 : 1 ≤ s.n
  n64 : s.n ≤ 64
  cur : (s.cur.length : Int) = s.n
  ts : rightsT s.n 0 s.ts = true
  run : ∀ c, c < s.cur.length → s.cur.getD c 0 = 0 ∨ runsB s.cur s.ts c = true
theorem rightS_iff (s : Sc) : rightS s = true ↔ s.fit := by
  unfold rightS
  simp only [Bool.and_eq_true, decide_eq_true_eq, beq_iff_eq, List.all_eq_true, List.mem_range, Bool.or_eq_true]
  exact ⟨fun ⟨⟨⟨a, b⟩, c⟩, d, e⟩ => ⟨a, b, c, d, e⟩, fun ⟨a, b, c, d, e⟩ => ⟨⟨⟨a, b⟩, c⟩, d, e⟩⟩
theorem Sc.fit.each {s : Sc} (h : s.fit) : ∀ t ∈ s.ts, t.fit s.n := rightsT_fit (Int.le_refl _) h.ts
theorem Sc.fit.len {s : Sc} (h : s.fit) : s.ts.length ≤ 65535 := by
  have := rightsT_len (by omega) h.ts
  omega
theorem take_mem {α : Type} {l : List α} {n : Nat} {a : α} (h : a ∈ l.take n) : a ∈ l := List.mem_of_mem_take h

set_option maxRecDepth 100000 in
set_option maxHeartbeats 4000000 in
theorem loads_any (W : World) {A B : Option Addr} {la ca lb cb : Nat} {s : Sc} (hla : s.ts.length = la) (hlb : s.cur.length = lb)
    (ht : IsTks W A la s.ts) (hf : s.fit) :
    Calls Try.prog 33 #[.agg #[.int .i64 s.n, .slice A la ca, .slice B lb cb]] W fun e w' => ∃ b, e = .returned (.slice (some ⟨b, 0, none⟩) lb lb) ∧ W.heap.size ≤ b ∧ Row w' b lb (fun c => .int .i64 (loadV s.ts c)) ∧ Kp W.heap.size W w' := by
  have hlm := hf.len
  rw [hla] at hlm
  have hn1 := hf.n1
  have hn2 := hf.n64
  have hn3 := hf.cur
  rw [hlb] at hn3
  have HE := Lib.hid hf.each
  clear hf
  obtain ⟨n, ts, cur⟩ := s
  dsimp only at *
  subst hn3
  have hlb64 : lb ≤ 64 := by omega
  have HT := Lib.hid ht
  have HLA := Lib.hid hla
  have hmk := fun w => make_ints w lb (by omega)
  clear ht hla hlb hn1 hn2
  go_enter Try.func33, Try.ntmps33
  go_upto_region 2 with fail
  have X := C3.new W (.int .i64 (lb : Int)) (.slice A la ca) (.slice B lb cb) 30
  have X2 := X.alloc (.cells (madeCells (Value.int .i64 0).cells lb) 3)
  have RW := Row.made (W.alloc (.cells #[.int .i64 (lb : Int), .slice A la ca, .slice B lb cb] 30)) (.int .i64 0) rfl lb 3
  have K := ((Kp.refl W.heap.size W).alloc (Nat.le_refl _) (.cells #[.int .i64 (lb : Int), .slice A la ca, .slice B lb cb] 30)).alloc (by simp) (.cells (madeCells (Value.int .i64 0).cells lb) 3)
  rw [World.size_alloc] at RW
  have hne : W.heap.size ≠ W.heap.size + 1 := by omega
  have hbR : W.heap.size ≤ W.heap.size + 1 := by omega
  have HX := Lib.hid X2
  have HRW := Lib.hid RW
  have HK := Lib.hid K
  clear X X2 RW K hmk
  simp only [Value.cells] at HX HRW HK
  generalize (W.alloc _).alloc _ = w2 at *
  obtain ⟨bS, hbS2⟩ : ∃ bS, bS = W.heap.size := ⟨_, rfl⟩
  obtain ⟨bR, hbR2⟩ : ∃ bR, bR = W.heap.size + 1 := ⟨_, rfl⟩
  rw [← hbR2, ← hbS2] at hne
  rw [← hbR2] at hbR HRW
  rw [← hbS2] at HX
  rw [← hbR2, ← hbS2]
  clear hbS2 hbR2
  have x1 := HX.out.c1
  go_wp2_with fail
  clear x1
  go_loopw [12] (fun i wr => ∃ j : Nat, j ≤ la ∧ i = .int .i64 (j : Int) ∧ Row wr bR lb (fun c => .int .i64 (loadV (ts.take j) c)) ∧ Kp W.heap.size W wr) (fun i _ => la - (intOf i).toNat)
  case atStart => exact ⟨0, Nat.zero_le _, rfl, HRW.out, HK.out⟩
  case round =>
    clear HX HRW HK
    obtain ⟨j, hj, rfl, hrw, hk⟩ := hrel
    by_cases hlt : j < la
    · have hji : (j : Int) < la := by omega
      have htk := take_snoc' (ts := ts) (i := j) (by rw [HLA.out]; exact hlt)
      obtain ⟨b, off, rfl, T⟩ := HT.out j hlt
      have hfit := HE.out (ts.getD j t0) (by rw [List.getD_eq_getElem?_getD, List.getElem?_eq_getElem (by rw [HLA.out]; exact hlt)]; exact List.getElem_mem _)
      have hbd := fun c => loadV_bd (n := lb) (ts := ts.take j) c (fun t ht => HE.out t (take_mem ht))
      have hjl : (ts.take j).length = j := by rw [List.length_take, HLA.out]; omega
      replace T := T.kp hk
      generalize ts.getD j t0 = t at *
      obtain ⟨id, grp, wt, cpu, mask, rdy, v, r⟩ := t
      obtain ⟨p0, p1, _, _, p2, p3, _⟩ := hfit
      dsimp only at *
      obtain ⟨q, rfl⟩ : ∃ q : Nat, cpu = (q : Int) := ⟨cpu.toNat, by omega⟩
      have hqlb : q < lb := by omega
      have HTK := Lib.hid htk
      have HRW := Lib.hid hrw
      have HK := Lib.hid hk
      obtain ⟨hb0, hb1⟩ := hbd q
      rw [hjl] at hb1
      have HU := fun c => Lib.hid (loadV_snoc (ts.take j) ⟨id, grp, wt, (q : Int), mask, rdy, v, r⟩ c)
      dsimp only at HU
      rw [Int.toNat_natCast] at HU
      clear htk hrw hk hbd hjl
      obtain ⟨c0, c1, c2, c3, c4, c5, c6, c7, hbl⟩ := T
      go_upto_region 5 with fail
      have T := TkAt.new wr ⟨id, grp, wt, (q : Int), mask, rdy, v, r⟩ 43
      have HRW2 := Lib.hid (HRW.out.kp ((Kp.refl _ wr).alloc (Nat.le_refl _) (.cells (tkc ⟨id, grp, wt, (q : Int), mask, rdy, v, r⟩) 43)))
      have HK2 := Lib.hid (HK.out.alloc HK.out.size (.cells (tkc ⟨id, grp, wt, (q : Int), mask, rdy, v, r⟩) 43))
      have HT := Lib.hid T
      obtain ⟨bT, hbT⟩ : ∃ bT, bT = wr.heap.size := ⟨_, rfl⟩
      have hTR : bT ≠ bR := by have := HRW.out.lt; omega
      rw [← hbT] at HT
      rw [← hbT]
      clear c0 c1 c2 c3 c4 c5 c6 c7 T HRW HK hbT hbl
      dsimp only [tkc] at HRW2 HK2
      generalize wr.alloc _ = wA at *
      obtain ⟨c0, c1, c2, c3, c4, c5, c6, c7, hbl⟩ := HT.out
      simp only [Nat.zero_add] at c0 c1 c2 c3 c4 c5 c6 c7
      have hrc := HRW2.out.cells q hqlb
      have hrf := HRW2.out.fz q
      have hrl := HRW2.out.lt
      generalize hL : loadV (ts.take j) q = L at *
      have HL := Lib.hid hL
      clear hL
      cases rdy
      · go_wp2_with fail
        go_roundw
        case rel => exact ⟨j + 1, by omega, by go_num, HRW2.out.congr (g := fun c => .int .i64 (loadV (ts.take (j + 1)) c)) (fun c _ => by rw [HTK.out, (HU c).out]; simp), HK2.out⟩
        case measure => simp [intOf]; omega
      · go_wp2_with fail
        go_region
        all_goals go_wp2_with fail
        all_goals
          go_roundw
          case rel => exact ⟨j + 1, by omega, by go_num, ((HRW2.out.set hqlb (.int .i64 (L + wt))).congr (g := fun c => .int .i64 (loadV (ts.take (j + 1)) c)) (fun c _ => by
            rw [HTK.out, (HU c).out]
            by_cases e : c = q
            · subst e; simp [HL.out]
            · have : (q == c) = false := beq_eq_false_iff_ne.2 (fun h => e h.symm)
              simp [e, this])).kp ((Kp.refl _ _).drewN 1), (HK2.out.setCell (p := ⟨bR, q, none⟩) hbR _).drew⟩
          case measure => simp [intOf]; omega
    · have hje : j = la := by omega
      subst hje
      have hjn : ¬ ((j : Int) < (j : Int)) := by omega
      have htk : ts.take j = ts := List.take_of_length_le (by rw [HLA.out]; exact Nat.le_refl _)
      rw [htk] at hrw
      have HRW := Lib.hid hrw
      have HK := Lib.hid hk
      clear hrw hk htk
      go_wp2_with fail
      go_ret
      exact ⟨bR, rfl, hbR, HRW.out, HK.out⟩
end Go.Proofs.Yticgdfbknaholaa
