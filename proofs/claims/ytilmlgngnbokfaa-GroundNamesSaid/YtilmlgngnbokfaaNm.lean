/- The names' numbers. -/
import Derived.Test.YtilmlgngnbokfaaEv
namespace Go.Proofs.Ytilmlgngnbokfaa
set_option linter.unusedVariables false
set_option linter.unusedSimpArgs false
open Go.RowKit

theorem brk_B {d : Deck} {c : Int} (h : d.ok c) (cr : List (Int × Int)) (firm : Int) : brkI d cr firm = idxI (fun i => decide (iceOf d cr firm i * presC d i < presB d i)) (List.range d.posts.length) := by
  have : brk d cr firm = fun i => decide (iceOf d cr firm i * presC d i < presB d i) := by funext i; unfold brk; rw [pres_B h]
  unfold brkI
  rw [this]
theorem brk00 : brkI d0 (crustL g0.radar l0) 1 = -1 := by rw [brk_B d0_ok3]; decide +kernel
theorem brk01 : brkI d0 (crustL g0.radar []) 1 = 1 := by rw [brk_B d0_ok3]; decide +kernel
theorem most100 : bearsB (d0.pe 100) (crustL g0.radar l0) 1 = true := by rw [bears_D (Deck.pe_ok d0_ok3 (by decide))]; decide +kernel
theorem ap15 : bearsB (d0.ap 15) (crustL g0.radar []) 1 = true := by rw [bears_D (Deck.ap_ok d0_ok3 (by decide))]; decide +kernel
theorem ap14 : bearsB (d0.ap 14) (crustL g0.radar []) 1 = false := by rw [bears_D (Deck.ap_ok d0_ok3 (by decide))]; decide +kernel
def l1 : List (Int × Int × Int) := [(1, 16, 17), (1, 18, 30)]
theorem wr1 : wrongI g0.radar l1 = 1 := by decide +kernel
theorem snd1_ok : SndOk 3 l1 := by unfold SndOk sndP l1 thick; decide
theorem crust00 : crustL g0.radar l0 = [(12, 20), (16, 17), (14, 14)] := by decide +kernel
theorem pres_B2 {d : Deck} {c : Int} (h : d.ok c) (i : Nat) : pres d i = (presB d i / gcdI (presB d i) (presC d i), presC d i / gcdI (presB d i) (presC d i)) := by
  unfold pres
  rw [pres_B h]
theorem loadRes_of {d : Deck} (h : d.ok 400) (i : Nat) (hi : i < d.posts.length) {p : Int × Int} (hp : (presB d i / gcdI (presB d i) (presC d i), presC d i / gcdI (presB d i) (presC d i)) = p) : loadRes d i = (p, 0) := by
  unfold loadRes
  rw [if_pos h, if_pos (by omega), ← hp, ← pres_B2 h]
  rfl
theorem load00 : loadRes d0 (0 : Nat) = ((140, 1), 0) := loadRes_of d0_ok400 0 (by decide) (by decide +kernel)
theorem load01 : loadRes d0 (1 : Nat) = ((250, 1), 0) := loadRes_of d0_ok400 1 (by decide) (by decide +kernel)
theorem load02 : loadRes d0 (2 : Nat) = ((190, 1), 0) := loadRes_of d0_ok400 2 (by decide) (by decide +kernel)
theorem few1 : loadRes (d0.pe 1) (1 : Nat) = ((130, 1), 0) := loadRes_of (Deck.pe_ok d0_ok400 (by decide)) 1 (by decide) (by decide +kernel)
theorem few2 : loadRes (d0.pe 2) (1 : Nat) = ((550, 3), 0) := loadRes_of (Deck.pe_ok d0_ok400 (by decide)) 1 (by decide) (by decide +kernel)
theorem few3 : loadRes (d0.pe 3) (1 : Nat) = ((670, 3), 0) := loadRes_of (Deck.pe_ok d0_ok400 (by decide)) 1 (by decide) (by decide +kernel)

/-- What is wanted of the three. -/
def wantA : Nat → Int × Int | 0 => (140, 1) | 1 => (250, 1) | _ => (190, 1)
def wantB : Nat → Int × Int | 0 => (130, 1) | 1 => (550, 3) | _ => (670, 3)
theorem loadA : ∀ i : Nat, i < 3 → loadRes d0 (i : Nat) = (wantA i, 0)
  | 0, _ => load00
  | 1, _ => load01
  | 2, _ => load02
theorem loadB : ∀ i : Nat, i < 3 → loadRes (d0.pe ((i : Int) + 1)) (1 : Nat) = (wantB i, 0)
  | 0, _ => few1
  | 1, _ => few2
  | 2, _ => few3

section
variable {A B Ap Al : Option Addr} {l : List (Int × Int × Int)}
theorem loadA_any (i : Nat) (hi : i < 3) (W : World) (h : Args W A g0 B l Ap Al d0) :
    Calls Try.prog 14 #[d0V Ap Al, I i] W fun e w' => e = .returned (.tuple #[.agg #[I (wantA i).1, I (wantA i).2], I 0]) ∧ Below W.heap.size W w' := by
  have := Load_any Ap Al 3 2 d0 i W h.hp h.hb (by decide) (by decide)
  rw [loadA i hi] at this
  exact this
theorem loadB_any (i : Nat) (hi : i < 3) (W : World) (h : Args W A g0 B l Ap Al d0) :
    Calls Try.prog 14 #[.agg #[.slice Ap 3 3, .slice Al 2 2, I 2, I 80, I 10, I ((i : Int) + 1)], I 1] W fun e w' => e = .returned (.tuple #[.agg #[I (wantB i).1, I (wantB i).2], I 0]) ∧ Below W.heap.size W w' := by
  have := Load_any Ap Al 3 2 (d0.pe ((i : Int) + 1)) (1 : Nat) W h.hp h.hb (show d0.posts.length ≤ _ by decide) (show d0.lengths.length ≤ _ by decide)
  rw [loadB i hi] at this
  exact this
theorem brkA_any (W : World) (h : Args W A g0 B l0 Ap Al d0) : Calls Try.prog 25 #[g0V A, .slice B 1 1, d0V Ap Al] W fun e w' => e = .returned (.tuple #[I 0, I 4]) ∧ Below W.heap.size W w' :=
  (Breaks_any A 3 g0 B 1 l0 Ap Al 3 2 d0 W h).mono fun e w' h => ⟨by
    rcases h.1 with ⟨h, _⟩ | ⟨_, h, _⟩ | ⟨_, _, h, _⟩ | ⟨_, _, _, h⟩
    · exact absurd all0 h
    · rw [wr0] at h; omega
    · rw [show g0.firm = 1 from rfl, brk00] at h; omega
    · exact h, h.2⟩
theorem brkB_any (W : World) (h : Args W A g0 B l0 Ap Al d0) : Calls Try.prog 25 #[g0V A, .slice none 0 0, d0V Ap Al] W fun e w' => e = .returned (.tuple #[I 1, I 0]) ∧ Below W.heap.size W w' :=
  (Breaks_any A 3 g0 none 0 [] Ap Al 3 2 d0 W (h.none none)).mono fun e w' h => ⟨by
    rcases h.1 with ⟨h, _⟩ | ⟨_, h, _⟩ | ⟨_, _, _, h⟩ | ⟨_, _, h, _⟩
    · exact absurd alln h
    · rw [wrn] at h; omega
    · rw [show g0.firm = 1 from rfl, brk01] at h; exact h
    · rw [show g0.firm = 1 from rfl, brk01] at h; omega, h.2⟩
theorem mostB_any (W : World) (h : Args W A g0 B l0 Ap Al d0) : Calls Try.prog 27 #[g0V A, .slice B 1 1, d0V Ap Al] W fun e w' => e = .returned (.tuple #[I 100, I 0]) ∧ Below W.heap.size W w' :=
  (Most_any A 3 g0 B 1 l0 Ap Al 3 2 d0 W h).mono fun e w' h => ⟨mostPost_of h.1 all0 (by rw [wr0]; decide) 100 (by omega) most100 (fun h => by omega), h.2⟩
theorem apartB_any (W : World) (h : Args W A g0 B l0 Ap Al d0) : Calls Try.prog 29 #[g0V A, .slice none 0 0, d0V Ap Al] W fun e w' => e = .returned (.tuple #[I 15, I 0]) ∧ Below W.heap.size W w' :=
  (Apart_any A 3 g0 none 0 [] Ap Al 3 2 d0 W (h.none none)).mono fun e w' h => ⟨apartPost_of h.1 alln (by rw [wrn]; decide) 15 (by omega) ap15 (fun _ => ap14), h.2⟩
theorem crustA_any (W : World) (h : Args W A g0 B l0 Ap Al d0) : Calls Try.prog 21 #[g0V A, .slice B 1 1] W fun e w' => (∃ gg cap, e = .returned (.tuple #[.slice (some ⟨gg, 0, none⟩) 3 cap, I 3, I 0]) ∧ Pairs w' w'.heap.size (some ⟨gg, 0, none⟩) [(12, 20), (16, 17), (14, 14)]) ∧ Below W.heap.size W w' :=
  (Crust_any A 3 g0 B 1 l0 W h.hr h.hl h.hrl h.hll).mono fun e w' h => ⟨by
    rcases h.2 with ⟨h, _⟩ | ⟨_, h, _⟩ | ⟨_, _, gg, cap, h, _, _, _, h5, h6⟩
    · exact absurd all0.1 h
    · rw [wr0] at h; omega
    · rw [crust00] at h6
      exact ⟨gg, cap, h, fun _ => ⟨gg, 0, rfl, h5, fun k hk => by have := h6 k hk; rw [show (0 : Nat) + k * 2 = k * 2 by omega]; exact ⟨this.1, this.2.1⟩⟩⟩, h.1⟩
theorem crustB_any (W : World) (hr : Pairs W W.heap.size A g0.radar) {B' : Option Addr} {c : Nat} (hl : Threes W W.heap.size B' l1) : Calls Try.prog 21 #[g0V A, .slice B' 2 c] W fun e w' => e = .returned (.tuple #[.slice none 0 0, I 1, I 6]) ∧ Below W.heap.size W w' :=
  (Crust_any A 3 g0 B' c l1 W hr hl (by decide) (by decide)).mono fun e w' h => ⟨by
    rcases h.2 with ⟨h, _⟩ | ⟨_, _, h⟩ | ⟨_, h, _⟩
    · exact absurd ⟨g0_ok, snd1_ok⟩ h
    · rw [wr1] at h; exact h
    · rw [wr1] at h; omega, h.1⟩
end
end Go.Proofs.Ytilmlgngnbokfaa
