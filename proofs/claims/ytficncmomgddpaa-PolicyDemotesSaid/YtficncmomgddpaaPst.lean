/- The sort: block by block. -/
import Derived.Test.YtficncmomgddpaaPmd
import Derived.WalkKit
import Derived.WalkLawsBesides
import Derived.WalkSpells
import Derived.Below
import Derived.Deep.RegionHeld3
import Derived.Deep.QuietTactic
import Derived.BigQuiet
import Derived.Deep.DeepCutAuto
import Derived.Deep.DeepMust
import Derived.KernelRfl
import Derived.Lib.Hide
import Derived.Outline
import Derived.RegionTactic
import Derived.StillTailTactics
namespace Go.Proofs.Ytficncmomgddpaa
open Go.RowKit Go.Cl
set_option maxRecDepth 100000
set_option linter.unusedVariables false
set_option linter.unusedSimpArgs false

open Go.Ps
def VB (bs N : Nat) (E : Nat → Nat) : Prop := ∀ q k, q * bs ≤ k → k < q * bs + bs → k < N → q * bs ≤ E k ∧ E k < q * bs + bs
def SB (R : Nat → Nat → Prop) (bs N : Nat) (E : Nat → Nat) : Prop := ∀ q, Sd R (q * bs) (min (q * bs + bs) N) E
structure Part (R : Nat → Nat → Prop) (bs N p : Nat) (E0 E : Nat → Nat) : Prop where
  pm : Pm 0 N E0 E
  same : ∀ k, p * bs ≤ k → k < N → E k = E0 k
  done : ∀ q, q < p → Sd R (q * bs) (q * bs + bs) E
  vb : VB bs N E
section
variable {R : Nat → Nat → Prop} {bs N p : Nat} {E0 E E' : Nat → Nat}
theorem blk_lt {p q : Nat} (h : p < q) (bs : Nat) : p * bs + bs ≤ q * bs := by
  have := Nat.mul_le_mul_right bs (show p + 1 ≤ q from h)
  rw [Nat.succ_mul] at this; exact this
theorem VB.pm (h : VB bs N E) {b : Nat} (hp : Pm (p * bs) b E E') (hb : b ≤ p * bs + bs) (hN : b ≤ N) : VB bs N E' := by
  intro q k h1 h2 h3
  rcases Nat.lt_trichotomy q p with c | c | c
  · have := blk_lt c bs
    rw [hp.same (.inl (by omega))]; exact h q k h1 h2 h3
  · subst c
    by_cases hk : k < b
    · exact hp.all (P := fun u => q * bs ≤ u ∧ u < q * bs + bs) (fun i i1 i2 => h q i i1 (by omega) (by omega)) k h1 hk
    · rw [hp.same (.inr (by omega))]; exact h q k h1 h2 h3
  · have := blk_lt c bs
    rw [hp.same (.inr (by omega))]; exact h q k h1 h2 h3
theorem Part.zero (h : VB bs N E) : Part R bs N 0 E E := ⟨Pm.refl _ _ _, fun _ _ _ => rfl, fun q hq => by omega, h⟩
theorem Part.step (h : Part R bs N p E0 E) (hp : Pm (p * bs) (p * bs + bs) E E') (hs : Sd R (p * bs) (p * bs + bs) E') (hN : p * bs + bs ≤ N) : Part R bs N (p + 1) E0 E' := by
  refine ⟨h.pm.trans (hp.mono (Nat.zero_le _) hN), fun k h1 h2 => ?_, fun q hq => ?_, h.vb.pm hp (Nat.le_refl _) hN⟩
  · rw [Nat.succ_mul] at h1
    rw [hp.same (.inr h1)]; exact h.same k (by omega) h2
  · by_cases c : q = p
    · subst c; exact hs
    · have := blk_lt (show q < p by omega) bs
      exact sd_eq (h.done q (by omega)) fun k k1 k2 => hp.same (.inl (by omega))
theorem Part.last (h : Part R bs N p E0 E) (hp : Pm (p * bs) N E E') (hs : Sd R (p * bs) N E') (h2 : N ≤ p * bs + bs) : SB R bs N E' ∧ VB bs N E' ∧ Pm 0 N E0 E' := by
  refine ⟨fun q => ?_, h.vb.pm hp h2 (Nat.le_refl _), h.pm.trans (hp.mono (Nat.zero_le _) (Nat.le_refl _))⟩
  rcases Nat.lt_trichotomy q p with c | c | c
  · have := blk_lt c bs
    intro i j i1 i2 i3
    exact sd_eq (h.done q c) (fun k k1 k2 => hp.same (.inl (by omega))) i j i1 i2 (by omega)
  · subst c; intro i j i1 i2 i3; exact hs i j i1 i2 (by omega)
  · have := blk_lt c bs
    intro i j i1 i2 i3; omega
theorem two_mul_blk (p bs : Nat) : (2 * p) * bs = p * (2 * bs) := by rw [Nat.mul_comm 2 p, Nat.mul_assoc]
theorem two_mul_blk1 (p bs : Nat) : (2 * p + 1) * bs = p * (2 * bs) + bs := by rw [Nat.succ_mul, two_mul_blk]
theorem VB.double (h : VB bs N E) : VB (2 * bs) N E := by
  intro q k h1 h2 h3
  by_cases c : k < q * (2 * bs) + bs
  · have := h (2 * q) k (by rw [two_mul_blk]; exact h1) (by rw [two_mul_blk]; exact c) h3
    rw [two_mul_blk] at this; omega
  · have := h (2 * q + 1) k (by rw [two_mul_blk1]; omega) (by rw [two_mul_blk1]; omega) h3
    rw [two_mul_blk1] at this; omega
theorem SB.lo (h : SB R bs N E) (p : Nat) : Sd R (p * (2 * bs)) (min (p * (2 * bs) + bs) N) E := by have := h (2 * p); rw [two_mul_blk] at this; exact this
theorem SB.hi (h : SB R bs N E) (p : Nat) : Sd R (p * (2 * bs) + bs) (min (p * (2 * bs) + bs + bs) N) E := by have := h (2 * p + 1); rw [two_mul_blk1] at this; exact this
theorem VB.cross (h : VB bs N E) (p : Nat) : ∀ x y, p * (2 * bs) ≤ x → x < p * (2 * bs) + bs → p * (2 * bs) + bs ≤ y → y < p * (2 * bs) + 2 * bs → x < N → y < N → E x < E y := by
  intro x y x1 x2 y1 y2 hx hy
  have a1 := h (2 * p) x (by rw [two_mul_blk]; exact x1) (by rw [two_mul_blk]; exact x2) hx
  have a2 := h (2 * p + 1) y (by rw [two_mul_blk1]; exact y1) (by rw [two_mul_blk1]; omega) hy
  rw [two_mul_blk] at a1; rw [two_mul_blk1] at a2; omega
theorem sd_to {R : Nat → Nat → Prop} {a b b' : Nat} {D : Nat → Nat} (h : Sd R a b D) (hb : b' ≤ b) : Sd R a b' D := fun i j h1 h2 h3 => h i j h1 h2 (by omega)
theorem VB.id (bs N : Nat) (h : ∀ k, k < N → E k = k) : VB bs N E := fun q k h1 h2 h3 => by rw [h k h3]; exact ⟨h1, h2⟩
end
def In1 (W0 : World) (c0 : Nat → Nat) (g N : Nat) (cf : Nat → Nat → Int) (D : Nat → Nat) (x y : Value) (wr : World) : Prop :=
  ∃ (p a b : Nat) (E : Nat → Nat), x = .int .i64 a ∧ y = .int .i64 b ∧ a = p * 20 ∧ b = a + 20 ∧ a ≤ N ∧ SS W0 c0 g N E wr ∧ Part (RR cf) 20 N p D E
def In2 (W0 : World) (c0 : Nat → Nat) (g N : Nat) (cf : Nat → Nat → Int) (bs : Nat) (D : Nat → Nat) (x y : Value) (wr : World) : Prop :=
  ∃ (p a b : Nat) (E : Nat → Nat), x = .int .i64 a ∧ y = .int .i64 b ∧ a = p * (2 * bs) ∧ b = a + 2 * bs ∧ a ≤ N ∧ SS W0 c0 g N E wr ∧ Part (RR cf) (2 * bs) N p D E
def Out2 (W0 : World) (c0 : Nat → Nat) (g N : Nat) (cf : Nat → Nat → Int) (D : Nat → Nat) (x : Value) (wr : World) : Prop :=
  ∃ (bs : Nat) (E : Nat → Nat), x = .int .i64 bs ∧ 0 < bs ∧ SS W0 c0 g N E wr ∧ SB (RR cf) bs N E ∧ VB bs N E ∧ Pm 0 N D E
section
variable (W0 : World) (c0 : Nat → Nat) (g N cp : Nat) (vp vq : Value) (cf : Nat → Nat → Int) (hN : N ≤ 1000) (tr : ∀ x y z, RR cf x y → RR cf y z → RR cf x z)
theorem MgOk.go {n : Nat} (h : MgOk W0 c0 g N cp vp vq cf n) (w : World) (D : Nat → Nat) (a m b : Nat) (h1 : b - a ≤ n) (h2 : SS W0 c0 g N D w) (h3 : a < m) (h4 : m < b) (h5 : b ≤ N) (h6 : ∀ k, k < N → D k < N) (h7 : Sd (RR cf) a m D) (h8 : Sd (RR cf) m b D) (h9 : ∀ x y, a ≤ x → x < m → m ≤ y → y < b → D x < D y) :
    Calls Try.prog 34 #[.slice (some ⟨g, 0, none⟩) N cp, .int .i64 a, .int .i64 m, .int .i64 b, .func (.func 29) #[] #[vp, vq]] w fun e w' => e = .returned (.tuple #[]) ∧ ∃ D', SS W0 c0 g N D' w' ∧ Pm a b D D' ∧ Sd (RR cf) a b D' := h w D a m b h1 h2 h3 h4 h5 h6 h7 h8 h9
include hN tr
set_option maxHeartbeats 1000000 in
theorem st_stable (HC0 : CmpOk W0 c0 N vp vq cf) (w : World) (D : Nat → Nat) (hS : SS W0 c0 g N D w) (hid : ∀ k, k < N → D k = k) :
    Calls Try.prog 32 #[.slice (some ⟨g, 0, none⟩) N cp, .int .i64 N, .func (.func 29) #[] #[vp, vq]] w fun e w' => e = .returned (.tuple #[]) ∧ ∃ D', SS W0 c0 g N D' w' ∧ Pm 0 N D D' ∧ Sd (RR cf) 0 N D' := by
  have HC := Lib.hid HC0
  have HM := Lib.hid (mg_all W0 c0 g N cp vp vq cf hN tr HC0 N)
  clear HC0
  have HID := Lib.hid hid; clear hid
  have hD : ∀ k, k < N → D k < N := fun k hk => by rw [HID.out k hk]; exact hk
  have HD := Lib.hid hD; clear hD
  go_enter Try.func32, Try.ntmps32
  go_wp2
  go_loopw [7, 8] (In1 W0 c0 g N cf D) (fun x _ _ => N + 1 - (intOf x).toNat)
  case atStart => exact ⟨0, 0, 20, D, rfl, rfl, by omega, by omega, Nat.zero_le _, hS, Part.zero (VB.id 20 N HID.out)⟩
  case round =>
    clear hS
    obtain ⟨p, a, b, E, rfl, rfl, ha, hb, haN, hS, hP⟩ := hrel
    have HP := Lib.hid hP; have HS := Lib.hid hS; have HA := Lib.hid (And.intro ha hb)
    clear hP hS
    have hlE := Pm.lt HP.out.pm (Nat.le_refl _) HD.out
    have HLE := Lib.hid hlE; clear hlE
    by_cases hle : b ≤ N
    · have b1 : (b : Int) ≤ (N : Int) := by omega
      have w1 : IntKind.i64.wrap ((b : Int) + 20) = (b : Int) + 20 := IntWalk.i64_in _ (by omega)
      have HI : Hid (a ≤ b ∧ b ≤ N ∧ ∀ k, a ≤ k → k < b → E k = k) := Lib.hid ⟨by omega, hle, fun k k1 k2 => by rw [HP.out.same k (by omega) (by omega)]; exact HID.out k (by omega)⟩
      clear ha hb
      go_wp2_with (go_at_call 33; (with_reducible refine (st_insert W0 c0 g N cp vp vq cf hN tr HC.out _ E HS.out a b HI.out.1 HI.out.2.1 HLE.out HI.out.2.2).mono ?_); rintro e w1 ⟨rfl, E', hS2, hp, hs⟩; have HS2 := Lib.hid hS2; have HX := Lib.hid (And.intro hp hs); clear hS2 hp hs)
      go_roundw
      case rel =>
        obtain ⟨ha, hb⟩ := HA.out
        obtain ⟨hp, hs⟩ := HX.out
        rw [hb, ha] at hp hs
        exact ⟨p + 1, b, b + 20, E', rfl, by go_num, by omega, rfl, hle, HS2.out, HP.out.step hp hs (by omega)⟩
      case measure => have := HA.out; simp [intOf]; omega
    · have b1 : ¬ ((b : Int) ≤ (N : Int)) := by omega
      have HI : Hid (a ≤ N ∧ N ≤ N ∧ ∀ k, a ≤ k → k < N → E k = k) := Lib.hid ⟨haN, Nat.le_refl _, fun k k1 k2 => by rw [HP.out.same k (by omega) (by omega)]; exact HID.out k (by omega)⟩
      clear ha hb
      go_wp2_with (go_at_call 33; (with_reducible refine (st_insert W0 c0 g N cp vp vq cf hN tr HC.out _ E HS.out a N HI.out.1 HI.out.2.1 HLE.out HI.out.2.2).mono ?_); rintro e w1 ⟨rfl, E', hS2, hp, hs⟩; have HS2 := Lib.hid hS2; have HX := Lib.hid (And.intro hp hs); clear hS2 hp hs)
      have hx : SB (RR cf) 20 N E' ∧ VB 20 N E' ∧ Pm 0 N D E' := by
        obtain ⟨ha, hb⟩ := HA.out
        obtain ⟨hp, hs⟩ := HX.out
        rw [ha] at hp hs
        exact HP.out.last hp hs (by omega)
      have HF := Lib.hid hx
      clear hx HX HP HS HLE HI HA b1
      go_loopw [6] (Out2 W0 c0 g N cf D) (fun x _ => N - (intOf x).toNat)
      case atStart => exact ⟨20, E', rfl, by omega, HS2.out, HF.out⟩
      case round =>
        clear HS2 HF hle haN
        obtain ⟨bs, F, rfl, hb0, hS, hF⟩ := hrel
        have HF := Lib.hid hF; have HS := Lib.hid hS; clear hF hS
        by_cases hlt : bs < N
        · have b1 : (bs : Int) < (N : Int) := by omega
          have w1 : IntKind.i64.wrap (2 * (bs : Int)) = 2 * (bs : Int) := IntWalk.i64_in _ (by omega)
          have w2 : IntKind.i64.wrap ((bs : Int) * 2) = (bs : Int) * 2 := IntWalk.i64_in _ (by omega)
          go_wp2
          go_loopw [7, 8] (In2 W0 c0 g N cf bs F) (fun x _ _ => N + 1 - (intOf x).toNat)
          case atStart => exact ⟨0, 0, 2 * bs, F, rfl, by go_num, by omega, by omega, Nat.zero_le _, HS.out, Part.zero HF.out.2.1.double⟩
          case round =>
            clear HS
            obtain ⟨p, a, b, E, rfl, rfl, ha, hb, haN, hS, hP⟩ := hrel
            have HP := Lib.hid hP; have HS := Lib.hid hS; have HA := Lib.hid (And.intro ha hb)
            clear hP hS
            have hlF := Pm.lt HF.out.2.2 (Nat.le_refl _) HD.out
            have hlE := Pm.lt HP.out.pm (Nat.le_refl _) hlF
            have HLE := Lib.hid hlE; clear hlE hlF
            obtain ⟨m, hm⟩ : ∃ m, m = a + bs := ⟨_, rfl⟩
            have w3 : IntKind.i64.wrap ((a : Int) + (bs : Int)) = (m : Int) := by rw [IntWalk.i64_in _ (by omega)]; omega
            have HMM := Lib.hid hm
            have lo : ∀ c, c ≤ m → c ≤ N → Sd (RR cf) a c E := fun c c1 c2 => by
              have := HF.out.1.lo p
              rw [← ha] at this
              exact sd_eq (sd_to this (by omega)) fun k k1 k2 => HP.out.same k (by omega) (by omega)
            have hi : ∀ c, c ≤ b → c ≤ N → Sd (RR cf) m c E := fun c c1 c2 => by
              have := HF.out.1.hi p
              rw [← ha, ← hm] at this
              exact sd_eq (sd_to this (by omega)) fun k k1 k2 => HP.out.same k (by omega) (by omega)
            have cr : ∀ x y, a ≤ x → x < m → m ≤ y → y < b → y < N → E x < E y := fun x y x1 x2 y1 y2 hy => by
              rw [HP.out.same x (by omega) (by omega), HP.out.same y (by omega) hy]
              exact HF.out.2.1.cross p x y (by omega) (by omega) (by omega) (by omega) (by omega) hy
            have HLO := Lib.hid lo; have HHI := Lib.hid hi; have HCR := Lib.hid cr
            clear lo hi cr
            by_cases hle : b ≤ N
            · have b2 : (b : Int) ≤ (N : Int) := by omega
              have w4 : IntKind.i64.wrap ((b : Int) + 2 * (bs : Int)) = (b : Int) + 2 * (bs : Int) := IntWalk.i64_in _ (by omega)
              have HI : Hid (b - a ≤ N ∧ a < m ∧ m < b ∧ b ≤ N) := Lib.hid ⟨by omega, by omega, by omega, hle⟩
              clear ha hb hm
              go_wp2_with (go_at_call 34; (with_reducible refine (MgOk.go W0 c0 g N cp vp vq cf HM.out _ E a m b HI.out.1 HS.out HI.out.2.1 HI.out.2.2.1 HI.out.2.2.2 HLE.out (HLO.out m (Nat.le_refl _) (by have := HI.out; omega)) (HHI.out b (Nat.le_refl _) HI.out.2.2.2) (fun x y x1 x2 y1 y2 => HCR.out x y x1 x2 y1 y2 (by have := HI.out; omega))).mono ?_); rintro e w1 ⟨rfl, E', hS2, hp, hs⟩; have HS2 := Lib.hid hS2; have HX := Lib.hid (And.intro hp hs); clear hS2 hp hs)
              go_roundw
              case rel =>
                obtain ⟨ha, hb⟩ := HA.out
                obtain ⟨hp, hs⟩ := HX.out
                rw [hb, ha] at hp hs
                exact ⟨p + 1, b, b + 2 * bs, E', rfl, by go_num, by rw [Nat.succ_mul]; omega, rfl, hle, HS2.out, HP.out.step hp hs (by omega)⟩
              case measure => have := HA.out; simp [intOf]; omega
            · have b2 : ¬ ((b : Int) ≤ (N : Int)) := by omega
              by_cases hmN : m < N
              · have b3 : (m : Int) < (N : Int) := by omega
                have HI : Hid (N - a ≤ N ∧ a < m ∧ m < N ∧ N ≤ b) := Lib.hid ⟨by omega, by omega, by omega, by omega⟩
                clear ha hb hm
                go_wp2_with (go_at_call 34; (with_reducible refine (MgOk.go W0 c0 g N cp vp vq cf HM.out _ E a m N HI.out.1 HS.out HI.out.2.1 HI.out.2.2.1 (Nat.le_refl _) HLE.out (HLO.out m (Nat.le_refl _) (by have := HI.out; omega)) (HHI.out N HI.out.2.2.2 (Nat.le_refl _)) (fun x y x1 x2 y1 y2 => HCR.out x y x1 x2 y1 (by have := HI.out; omega) y2)).mono ?_); rintro e w1 ⟨rfl, E', hS2, hp, hs⟩; have HS2 := Lib.hid hS2; have HX := Lib.hid (And.intro hp hs); clear hS2 hp hs)
                go_roundw
                case rel =>
                  obtain ⟨ha, hb⟩ := HA.out
                  obtain ⟨hp, hs⟩ := HX.out
                  rw [ha] at hp hs
                  obtain ⟨f1, f2, f3⟩ := HP.out.last hp hs (by omega)
                  exact ⟨2 * bs, E', by go_num, by omega, HS2.out, f1, f2, HF.out.2.2.trans f3⟩
                case measure => simp [intOf]; omega
              · have b3 : ¬ ((m : Int) < (N : Int)) := by omega
                have hs : Sd (RR cf) a N E := HLO.out N (by omega) (Nat.le_refl _)
                have HX := Lib.hid hs
                clear ha hb hm hs
                go_wp2
                go_roundw
                case rel =>
                  obtain ⟨ha, hb⟩ := HA.out
                  have hs := HX.out
                  rw [ha] at hs
                  obtain ⟨f1, f2, f3⟩ := HP.out.last (Pm.refl _ _ _) hs (by omega)
                  exact ⟨2 * bs, E, by go_num, by omega, HS.out, f1, f2, HF.out.2.2.trans f3⟩
                case measure => simp [intOf]; omega
        · have b1 : ¬ ((bs : Int) < (N : Int)) := by omega
          go_wp2
          refine bodyPost_end (results_none rfl _ _ _) rfl ?_
          refine ⟨rfl, F, HS.out, HF.out.2.2, ?_⟩
          have := HF.out.1 0
          rw [Nat.zero_mul] at this
          exact sd_to this (by omega)
theorem st_sort (HC : CmpOk W0 c0 N vp vq cf) (w : World) (D : Nat → Nat) (hS : SS W0 c0 g N D w) (hid : ∀ k, k < N → D k = k) :
    Calls Try.prog 28 #[.slice (some ⟨g, 0, none⟩) N cp, .func (.func 29) #[] #[vp, vq]] w fun e w' => e = .returned (.tuple #[]) ∧ ∃ D', SS W0 c0 g N D' w' ∧ Pm 0 N D D' ∧ Sd (RR cf) 0 N D' := by
  have HX := Lib.hid (st_stable W0 c0 g N cp vp vq cf hN tr HC w D hS hid)
  clear HC hS hid
  go_enter Try.func28, Try.ntmps28
  go_wp2_with (go_at_call 32; (with_reducible refine HX.out.mono ?_); rintro e w1 ⟨rfl, hx⟩)
  refine bodyPost_end (results_none rfl _ _ _) rfl ?_
  exact ⟨rfl, hx⟩
end
end Go.Proofs.Ytficncmomgddpaa
