/-
  The law PlaceFloor, walked.
-/
import Derived.Test.YtmlapjaccmoleaaEntSl
import Derived.Test.YtmlapjaccmoleaaFloor2
import Derived.Test.YtmlapjaccmoleaaAwakeP
import Derived.Test.YtmlapjaccmoleaaMove
namespace Go.Proofs.Ytmlapjaccmoleaa
open Go.RowKit

set_option maxRecDepth 100000 in
set_option maxHeartbeats 1000000 in
theorem lowest_any {f : Int} (W : World) (A : Option Addr) (len cap : Nat) (es : List E3) (hlen : es.length = len) (h60 : len ≤ 60) (hcap : A = none → cap = 0 ∧ len = 0) (hc : IsEnts W A len es) (hE : EBs es) :
    Calls Try.prog 33 #[.int .u64 f, .slice A len cap] W fun e w' => e = .returned (.bool true) ∧ Kp W.heap.size W w' := by
  subst hlen
  have H1 := fun (w : World) (k : Kp W.heap.size W w) => Lib.hid (cloneE_any w A es.length cap es rfl hcap (hc.kp k) (by omega))
  have H2 := fun (w : World) (A : Option Addr) (cap : Nat) (hc : IsEnts w A es.length es) => Lib.hid (floor_any (f := f) w A cap es (by omega) hc hE)
  have H3 := fun (w : World) (k : Kp W.heap.size W w) => Lib.hid (theirs_any w A es.length cap es rfl (by omega) (hc.kp k))
  have H4 := fun (w : World) (A : Option Addr) (cap : Nat) (hc : IsEnts w A es.length es) => Lib.hid (refFloor_any (f := f) w A cap es (by omega) hc hE)
  have H5 := fun (w : World) (k : Kp W.heap.size W w) (B : Option Addr) (d : Nat) (hb : IsEnts w B es.length es) => Lib.hid (equalE_same w B A es.length d cap es (by omega) hb (hc.kp k))
  have hm : (es.length : Int) ≤ 60 := by omega
  generalize iff (es.all rightE) (flV f es) = V at *
  generalize flE es = E at *
  clear hcap hc hE h60
  go_enter Try.func33, Try.ntmps33
  go_wp2_with fail
  refine (H1 _ (Kp.refl _ _)).out.mono ?_
  rintro e w1 ⟨v, rfl, hown, hk1⟩
  obtain ⟨B, c, rfl, _, _, _, hrd, _⟩ := own_form hown
  have HB := Lib.hid (hrd.ents rfl)
  have HK := Lib.hid hk1
  clear hown hrd hk1 H1
  go_wp2_with fail
  refine (H2 _ _ _ HB.out).out.mono ?_
  rintro e w2 ⟨rfl, hg2⟩
  replace HB := Lib.hid (HB.out.kp hg2.kp)
  replace HK := Lib.hid (HK.out.trans (hg2.kp.mono HK.out.size))
  clear hg2 H2
  go_wp2_with fail
  refine (H3 _ HK.out).out.mono ?_
  rintro e w3 ⟨v, rfl, hown, hk1⟩
  obtain ⟨C, c3, rfl, _, _, _, hrd, _⟩ := own_form hown
  have HC := Lib.hid (hrd.ents rfl)
  replace HB := Lib.hid (HB.out.kp hk1)
  replace HK := Lib.hid (HK.out.trans (hk1.mono HK.out.size))
  clear hown hrd hk1 H3
  go_wp2_with fail
  refine (H4 _ _ _ HC.out).out.mono ?_
  rintro e w4 ⟨rfl, hg2⟩
  replace HB := Lib.hid (HB.out.kp hg2.kp)
  replace HK := Lib.hid (HK.out.trans (hg2.kp.mono HK.out.size))
  clear hg2 H4 HC
  go_wp2_with fail
  refine (H5 _ HK.out _ _ HB.out).out.mono ?_
  rintro e w5 ⟨rfl, n, rfl⟩
  go_wp2_with fail
  go_ret
  exact ⟨rfl, HK.out.drewN n⟩
set_option maxRecDepth 100000 in
set_option maxHeartbeats 1000000 in
theorem law10 {W : World} (f : Int) (_ : (Lit.int .u64 f).wf = true) (A : Option Addr) (cap : Nat) (es : List E3) (hc : es.length ≤ cap) (hm : (cap : Int) ≤ 9223372036854775807) (hn : A = none → cap = 0) (hi : IsEnts W A es.length es) (hE : EBs es) :
    Calls Try.prog 10 #[.int .u64 f, .slice A es.length cap] W fun e w' => e = .returned (.bool true) ∧ Kp W.heap.size W w' := by
  have HA := fun W => Lib.hid (awakeP_any W)
  by_cases h : 60 < es.length
  · have h' : (60 : Int) < es.length := by omega
    clear hi hE h hn hc
    go_enter Try.func10, Try.ntmps10
    go_wp2_with fail
    refine (HA _).out.mono ?_
    rintro e w1 ⟨rfl, hg1⟩
    go_wp2_with fail
    go_ret
    exact ⟨rfl, hg1.kp⟩
  · have h' : ¬ (60 : Int) < es.length := by omega
    have H := Lib.hid (lowest_any (f := f) W A es.length cap es rfl (by omega) (fun h => ⟨hn h, by have := hn h; omega⟩) hi hE)
    clear hi hE h hn hc
    go_enter Try.func10, Try.ntmps10
    go_wp2_with fail
    refine H.out.mono ?_
    rintro e w1 ⟨rfl, hk1⟩
    go_wp2_with fail
    refine (HA _).out.mono ?_
    rintro e w2 ⟨rfl, hg1⟩
    go_wp2_with fail
    go_ret
    exact ⟨rfl, hk1.trans (hg1.kp.mono hk1.size)⟩
end Go.Proofs.Ytmlapjaccmoleaa
