/-
  What Made hands back, read as a scene in memory.
-/
import Derived.Test.YticgdfbknaholaaPick27
import Derived.Test.YticgdfbknaholaaAwake27
namespace Go.Proofs.Yticgdfbknaholaa
open Go.RowKit

structure MadeAt (W w : World) (v : Value) (N la : Nat) (A B : Option Addr) (ca cb : Nat) (ts : List Tk) (cur : List Int) : Prop where
  v : v = .agg #[.int .i64 (N : Int), .slice A la ca, .slice B N cb]
  sc : ScAt w A la B N ⟨(N : Int), ts, cur⟩
  fit : Sc.fit ⟨(N : Int), ts, cur⟩
  n1 : 1 ≤ N
  n8 : N ≤ 8
  l40 : la ≤ 40
  row : w.ownsRow W.heap.size 43 8 (.slice A la ca) la (flatT ts)
  cow : w.ownsRow W.heap.size 3 1 (.slice B N cb) N (cur.map (Value.int .i64))
  kp : Kp W.heap.size W w
theorem madeSc_any (W : World) {A B : Option Addr} {la ca lb cb : Nat} {a : Int} {xs : List Xt} {zs : List Int} (h : SmAt W A la ca B lb cb a xs zs) :
    Calls Try.prog 11 #[.agg #[.int .u8 a, .slice A la ca, .slice B lb cb]] W fun e w' => ∃ v N la A B ca cb ts cur, e = .returned v ∧ MadeAt W w' v N la A B ca cb ts cur := by
  refine (made_any W h).mono ?_
  rintro e w ⟨v, s, rfl, hr, hf, h8, h40, hk⟩
  have ho := hr.own (by omega) (by have := hf.cur; have := hf.n64; omega)
  obtain ⟨n, ts, cur⟩ := s
  have hn := hf.cur
  dsimp only at hn h8 h40
  subst hn
  obtain ⟨A, ca, B, cb, rfl, hsc, _⟩ := ho.ex
  obtain ⟨x, y, e, h1, h2, h3⟩ := hr.ex
  cases e
  have := hf.n1
  dsimp only at this
  exact ⟨_, cur.length, ts.length, A, B, ca, cb, ts, cur, rfl, rfl, hsc, hf, by omega, by omega, h40, h1, h2, hk⟩
theorem MadeAt.kps {W w w' : World} {v : Value} {N la : Nat} {A B : Option Addr} {ca cb : Nat} {ts : List Tk} {cur : List Int} (h : MadeAt W w v N la A B ca cb ts cur) (k : Kp w.heap.size w w') : MadeAt W w' v N la A B ca cb ts cur :=
  ⟨h.v, h.sc.kp k, h.fit, h.n1, h.n8, h.l40, own_kp h.row k, own_kp h.cow k, h.kp.trans (k.mono h.kp.size)⟩
end Go.Proofs.Yticgdfbknaholaa
