/- Breaks, Most, Apart. -/
import Derived.Test.YtilmlgngnbokfaaW
import Derived.Laws.EntriesVeiled
namespace Go.Proofs.Ytilmlgngnbokfaa
set_option linter.unusedVariables false
set_option linter.unusedSimpArgs false
open Go.RowKit

set_option maxHeartbeats 400000 in
theorem clo54 (firm : Int) (gg cap : Nat) (cr : List (Int × Int)) (Ap Al : Option Addr) (cp cl : Nat) (d : Deck) (k : Nat) (hk : k < 101) (bx : Nat) (w : World) (hF : FieldOk w firm gg cap cr Ap Al d)
    (hc : w.cell? ⟨bx, 0, none⟩ = some (.func (.func 52) #[fieldV firm gg cap cr Ap Al cp cl d] #[])) :
    Calls Try.prog 54 (#[I k] ++ #[.pointer (some ⟨bx, 0, none⟩)]) w fun e w' => e = .returned (.bool (!bearsB (d.pe k) cr firm)) ∧ Below w.heap.size w w' := by
  have hW := with_pe firm gg cap cr Ap Al cp cl d k (by omega) w hF
  generalize fieldV firm gg cap cr Ap Al cp cl d = fv at hW hc
  generalize bearsB (d.pe k) cr firm = bb at hW ⊢
  clear hF
  simp only [List.append_toArray, List.cons_append, List.nil_append]
  go_enter Try.func54, Try.ntmps54
  go_wp2_with (go_at_call 52; refine hW.mono ?_; rintro e w1 ⟨rfl, hB⟩)
  go_ret
  exact ⟨rfl, hB⟩
set_option maxHeartbeats 400000 in
theorem clo56 (firm : Int) (gg cap : Nat) (cr : List (Int × Int)) (Ap Al : Option Addr) (cp cl : Nat) (d : Deck) (k : Nat) (hk : k < 400) (bx : Nat) (w : World) (hF : FieldOk w firm gg cap cr Ap Al d)
    (hc : w.cell? ⟨bx, 0, none⟩ = some (.func (.func 52) #[fieldV firm gg cap cr Ap Al cp cl d] #[])) :
    Calls Try.prog 56 (#[I k] ++ #[.pointer (some ⟨bx, 0, none⟩)]) w fun e w' => e = .returned (.bool (bearsB (d.ap (k + 1)) cr firm)) ∧ Below w.heap.size w w' := by
  have hW := with_ap firm gg cap cr Ap Al cp cl d ((k : Int) + 1) (by omega) w hF
  generalize fieldV firm gg cap cr Ap Al cp cl d = fv at hW hc
  generalize bearsB (d.ap (k + 1)) cr firm = bb at hW ⊢
  clear hF
  simp only [List.append_toArray, List.cons_append, List.nil_append]
  go_enter Try.func56, Try.ntmps56
  go_wp2_with (go_at_call 52; refine hW.mono ?_; rintro e w1 ⟨rfl, hB⟩)
  go_ret
  exact ⟨rfl, hB⟩

/-- The arguments of the three, in memory. -/
structure Args (w : World) (A : Option Addr) (g : Grd) (B : Option Addr) (l : List (Int × Int × Int)) (Ap Al : Option Addr) (d : Deck) : Prop where
  hr : Pairs w w.heap.size A g.radar
  hl : Threes w w.heap.size B l
  hrl : g.radar.length ≤ 9223372036854775807
  hll : l.length ≤ 9223372036854775807
  hp : Ints w w.heap.size Ap d.posts
  hb : Ints w w.heap.size Al d.lengths
  hpl : d.posts.length ≤ 9223372036854775807
  hbl : d.lengths.length ≤ 9223372036854775807
theorem Args.below {w W : World} {A : Option Addr} {g : Grd} {B : Option Addr} {l : List (Int × Int × Int)} {Ap Al : Option Addr} {d : Deck} (h : Args w A g B l Ap Al d) (hB : Below w.heap.size w W) : Args W A g B l Ap Al d :=
  ⟨(h.hr.below hB).more hB.size, (h.hl.below hB).more hB.size, h.hrl, h.hll, (h.hp.below hB).more hB.size, (h.hb.below hB).more hB.size, h.hpl, h.hbl⟩

theorem crust_lo (ra : List (Int × Int)) (hra : ∀ k (h : k < ra.length), thick ra[k]) (l : List (Int × Int × Int)) (hl : ∀ k (h : k < l.length), thick l[k].2) : ∀ k (h : k < (crustL ra l).length), 0 ≤ (crustL ra l)[k].1 ∧ (crustL ra l)[k].1 ≤ 500 := by
  induction l generalizing ra with
  | nil => intro k h; have := hra k h; unfold thick at this; simp only [crustL, List.foldl_nil]; omega
  | cons s l ih =>
    intro k h
    have h0 := hl 0 (by simp)
    simp only [List.getElem_cons_zero] at h0
    have key : ∀ (cr : List (Int × Int)) (l : List (Int × Int × Int)), (∀ k (h : k < cr.length), 0 ≤ cr[k].1 ∧ cr[k].1 ≤ 500) → (∀ k (h : k < l.length), thick l[k].2) → ∀ k (h : k < (crustL cr l).length), 0 ≤ (crustL cr l)[k].1 ∧ (crustL cr l)[k].1 ≤ 500 := by
      intro cr l
      induction l generalizing cr with
      | nil => exact fun h _ k hk => h k hk
      | cons s l ih =>
        intro h1 h2
        have hs := h2 0 (by simp)
        simp only [List.getElem_cons_zero] at hs
        refine ih (cut1 cr s) ?_ (fun k hk => h2 (k + 1) (by simpa using hk))
        intro j hj
        have hj' : j < cr.length := by simpa using hj
        have := h1 j hj'
        unfold thick at hs
        by_cases e : j = s.1.toNat
        · subst e
          have e1 : (cut1 cr s)[s.1.toNat] = (max cr[s.1.toNat].1 s.2.1, min cr[s.1.toNat].2 s.2.2) := by simp [cut1]
          rw [e1]
          simp only
          omega
        · have e1 : (cut1 cr s)[j] = cr[j] := by simp [cut1, List.getElem_modify, Ne.symm e]
          rw [e1]
          exact this
    exact key ra (s :: l) (fun k hk => by have := hra k hk; unfold thick at this; omega) hl k h

theorem field_ok {w w1 : World} {A : Option Addr} {g : Grd} {B : Option Addr} {l : List (Int × Int × Int)} {Ap Al : Option Addr} {d : Deck} (ha : Args w A g B l Ap Al d) (hB : Below w.heap.size w w1) (hok : AllOk g l d)
    {gg cap : Nat} (h1 : gg < w1.heap.size) (h2 : Crust2 w1 gg (crustL g.radar l)) (h3 : g.radar.length ≤ cap ∧ cap ≤ 9223372036854775807) : FieldOk w1 g.firm gg cap (crustL g.radar l) Ap Al d := by
  have a2 := ha.below hB
  have hlen := crustL_length g.radar l
  obtain ⟨⟨⟨_, hf, hr, _, ht⟩, hs⟩, hd⟩ := hok
  exact ⟨h1, h2, by omega, by omega, crust_lo g.radar ht l (fun k h => (hs.2 k h).2), hf, a2.hp, a2.hb, by rw [hlen]; exact hd⟩

/-- What Breaks hands back. -/
def BrkPost (g : Grd) (l : List (Int × Int × Int)) (d : Deck) (e : Ending) : Prop :=
  (¬ AllOk g l d ∧ e = .returned (.tuple #[I 0, I 1])) ∨ (AllOk g l d ∧ 0 ≤ wrongI g.radar l ∧ e = .returned (.tuple #[I 0, I 6])) ∨
  (AllOk g l d ∧ wrongI g.radar l < 0 ∧ 0 ≤ brkI d (crustL g.radar l) g.firm ∧ e = .returned (.tuple #[I (brkI d (crustL g.radar l) g.firm), I 0])) ∨
  (AllOk g l d ∧ wrongI g.radar l < 0 ∧ brkI d (crustL g.radar l) g.firm < 0 ∧ e = .returned (.tuple #[I 0, I 4]))
def MostPost (g : Grd) (l : List (Int × Int × Int)) (d : Deck) (e : Ending) : Prop :=
  (¬ AllOk g l d ∧ e = .returned (.tuple #[I 0, I 1])) ∨ (AllOk g l d ∧ 0 ≤ wrongI g.radar l ∧ e = .returned (.tuple #[I 0, I 6])) ∨
  (AllOk g l d ∧ wrongI g.radar l < 0 ∧ ∃ r : Nat, r ≤ 101 ∧ (0 < r → bearsB (d.pe (r - 1 : Nat)) (crustL g.radar l) g.firm = true) ∧ (r < 101 → bearsB (d.pe r) (crustL g.radar l) g.firm = false) ∧
    ((r = 0 ∧ e = .returned (.tuple #[I 0, I 4])) ∨ (0 < r ∧ e = .returned (.tuple #[I ((r : Int) - 1), I 0]))))
def ApartPost (g : Grd) (l : List (Int × Int × Int)) (d : Deck) (e : Ending) : Prop :=
  (¬ AllOk g l d ∧ e = .returned (.tuple #[I 0, I 1])) ∨ (AllOk g l d ∧ 0 ≤ wrongI g.radar l ∧ e = .returned (.tuple #[I 0, I 6])) ∨
  (AllOk g l d ∧ wrongI g.radar l < 0 ∧ ∃ r : Nat, r ≤ 400 ∧ (0 < r → bearsB (d.ap ((r - 1 : Nat) + 1)) (crustL g.radar l) g.firm = false) ∧ (r < 400 → bearsB (d.ap (r + 1)) (crustL g.radar l) g.firm = true) ∧
    ((r = 400 ∧ e = .returned (.tuple #[I 0, I 4])) ∨ (r < 400 ∧ e = .returned (.tuple #[I ((r : Int) + 1), I 0]))))

set_option maxRecDepth 100000 in
set_option maxHeartbeats 2000000 in
theorem Breaks_any (A : Option Addr) (c : Nat) (g : Grd) (B : Option Addr) (cb : Nat) (l : List (Int × Int × Int)) (Ap Al : Option Addr) (cp cl : Nat) (d : Deck) (w : World) (ha : Args w A g B l Ap Al d) :
    Calls Try.prog 25 #[g.val A c, .slice B l.length cb, d.val Ap Al cp cl] w fun e w' => BrkPost g l d e ∧ Below w.heap.size w w' := by
  have hFd : ∀ W, Below w.heap.size w W → Calls Try.prog 48 #[g.val A c, .slice B l.length cb, d.val Ap Al cp cl] W (FieldPost g l Ap Al cp cl d W) := fun W hB =>
    have h := ha.below hB
    fieldOf_any A c g B cb l Ap Al cp cl d W h.hr h.hl h.hrl h.hll h.hp h.hb h.hpl h.hbl
  have hBr : ∀ W, Below w.heap.size w W → ∀ fb gg cap, AllOk g l d → fb < W.heap.size → gg < W.heap.size → FieldAt W fb g.firm gg cap (crustL g.radar l) Ap Al cp cl d → Crust2 W gg (crustL g.radar l) → g.radar.length ≤ cap ∧ cap ≤ 9223372036854775807 →
      Calls Try.prog 49 #[.pointer (some ⟨fb, 0, none⟩)] W _ := fun W hB fb gg cap hok h1 h2 h3 h4 h5 =>
    have f := field_ok ha hB hok h2 h4 h5
    breaks_any fb gg cap g.firm _ Ap Al cp cl d W h1 f.hgg h3 f.hC f.hcr f.hcap f.hlo f.hfirm f.hp f.hb f.hd
  have HBR := Lib.hid hBr
  generalize hP : BrkPost g l d = P
  have HP := Lib.hid hP
  clear hP ha hBr
  have hFd' := hFd
  clear hFd
  have eg : g.val A c = .agg #[I g.wide, I g.firm, .slice A g.radar.length c] := rfl
  have ed : d.val Ap Al cp cl = .agg #[.slice Ap d.posts.length cp, .slice Al d.lengths.length cl, I d.own, I d.weight, I d.apart, I d.persons] := rfl
  rw [eg, ed] at hFd' ⊢
  clear eg ed
  go_enter Try.func25, Try.ntmps25
  go_wp2_with (go_at_call 48; refine (hFd' _ (by (repeat' (first | assumption | exact Below.refl _ _ | refine Below.drew ?_ | refine below_drewN ?_ _ | refine Below.setCell ?_ (by first | omega | (simp; done) | (simp; omega)) _ | refine Below.alloc ?_ (by first | omega | (simp; done) | (simp; omega)) _ | refine Below.trans ?_ (Below.mono (by assumption) (by first | omega | (simp; done) | (simp; omega))))))).mono ?_; rintro e w1 ⟨hB, ⟨hn, rfl⟩ | ⟨hn, hw, rfl⟩ | ⟨hn, hw, fb, gg, cap, rfl, hcap, hcap2, hgg, hgg2, hfb, hfb2, hFA, hCr⟩⟩)
  · refine bodyPost_ret (v := .tuple #[I 0, I 1]) (by simp [results, Try.results25, go_sem]) rfl ⟨?_, below_call (by (repeat' (first | assumption | exact Below.refl _ _ | refine Below.drew ?_ | refine below_drewN ?_ _ | refine Below.setCell ?_ (by first | omega | (simp; done) | (simp; omega)) _ | refine Below.alloc ?_ (by first | omega | (simp; done) | (simp; omega)) _ | refine Below.trans ?_ (Below.mono (by assumption) (by first | omega | (simp; done) | (simp; omega)))))) hB⟩
    rw [← HP.out]
    exact .inl ⟨hn, rfl⟩
  · refine bodyPost_ret (v := .tuple #[I 0, I 6]) (by simp [results, Try.results25, go_sem]) rfl ⟨?_, below_call (by (repeat' (first | assumption | exact Below.refl _ _ | refine Below.drew ?_ | refine below_drewN ?_ _ | refine Below.setCell ?_ (by first | omega | (simp; done) | (simp; omega)) _ | refine Below.alloc ?_ (by first | omega | (simp; done) | (simp; omega)) _ | refine Below.trans ?_ (Below.mono (by assumption) (by first | omega | (simp; done) | (simp; omega)))))) hB⟩
    rw [← HP.out]
    exact .inr (.inl ⟨hn, hw, rfl⟩)
  · have hB1 := below_call (w := w) (by (repeat' (first | assumption | exact Below.refl _ _ | refine Below.drew ?_ | refine below_drewN ?_ _ | refine Below.setCell ?_ (by first | omega | (simp; done) | (simp; omega)) _ | refine Below.alloc ?_ (by first | omega | (simp; done) | (simp; omega)) _ | refine Below.trans ?_ (Below.mono (by assumption) (by first | omega | (simp; done) | (simp; omega)))))) hB
    have HN := Lib.hid hn
    have HW := Lib.hid hw
    have hcon := HBR.out w1 hB1 fb gg cap hn hfb2 hgg2 hFA hCr ⟨hcap2, hcap⟩
    clear hn hw
    go_wp2_with (go_at_call 49; refine hcon.mono ?_; rintro e w2 ⟨hB2, ⟨hn, rfl⟩ | ⟨hn, rfl⟩⟩)
    · refine bodyPost_ret (v := .tuple #[I 0, I 4]) (by simp [results, Try.results25, go_sem]) rfl ⟨?_, below_call hB1 hB2⟩
      rw [← HP.out]
      exact .inr (.inr (.inr ⟨HN.out, HW.out, hn, rfl⟩))
    · refine bodyPost_ret (v := .tuple #[I (brkI d (crustL g.radar l) g.firm), I 0]) (by simp [results, Try.results25, go_sem]) rfl ⟨?_, below_call hB1 hB2⟩
      rw [← HP.out]
      exact .inr (.inr (.inl ⟨HN.out, HW.out, hn, rfl⟩))

set_option maxRecDepth 100000 in
set_option maxHeartbeats 2000000 in
theorem Most_any (A : Option Addr) (c : Nat) (g : Grd) (B : Option Addr) (cb : Nat) (l : List (Int × Int × Int)) (Ap Al : Option Addr) (cp cl : Nat) (d : Deck) (w : World) (ha : Args w A g B l Ap Al d) :
    Calls Try.prog 27 #[g.val A c, .slice B l.length cb, d.val Ap Al cp cl] w fun e w' => MostPost g l d e ∧ Below w.heap.size w w' := by
  have hFd' : ∀ W, Below w.heap.size w W → Calls Try.prog 48 #[g.val A c, .slice B l.length cb, d.val Ap Al cp cl] W (FieldPost g l Ap Al cp cl d W) := fun W hB =>
    have h := ha.below hB
    fieldOf_any A c g B cb l Ap Al cp cl d W h.hr h.hl h.hrl h.hll h.hp h.hb h.hpl h.hbl
  have hBr : ∀ W, Below w.heap.size w W → ∀ gg cap bx, AllOk g l d → gg < W.heap.size → bx < W.heap.size → Crust2 W gg (crustL g.radar l) → g.radar.length ≤ cap ∧ cap ≤ 9223372036854775807 →
      W.cell? ⟨bx, 0, none⟩ = some (.func (.func 52) #[fieldV g.firm gg cap (crustL g.radar l) Ap Al cp cl d] #[]) →
      Calls Try.prog 53 #[I (101 : Nat), .func (.func 54) #[] #[.pointer (some ⟨bx, 0, none⟩)]] W _ := fun W hB gg cap bx hok h2 h3 h4 h5 h6 =>
    search53 54 _ (enters_of Try.func54 (by kernel_rfl) rfl) 101 (by omega) (fun k => !bearsB (d.pe k) (crustL g.radar l) g.firm) W (fun k hk W' hB' =>
      have f := (field_ok ha hB hok h2 h4 h5).below hB'
      clo54 g.firm gg cap _ Ap Al cp cl d k hk bx W' f ((hB'.cell (p := ⟨bx, 0, none⟩) h3).trans h6))
  have HBR := Lib.hid hBr
  have hlen := crustL_length g.radar l
  generalize hP : MostPost g l d = P
  have HP := Lib.hid hP
  clear hP ha hBr
  have eg : g.val A c = .agg #[I g.wide, I g.firm, .slice A g.radar.length c] := rfl
  have ed : d.val Ap Al cp cl = .agg #[.slice Ap d.posts.length cp, .slice Al d.lengths.length cl, I d.own, I d.weight, I d.apart, I d.persons] := rfl
  rw [eg, ed] at hFd' ⊢
  clear eg ed
  go_enter Try.func27, Try.ntmps27
  go_wp2_with (go_at_call 48; refine (hFd' _ (by (repeat' (first | assumption | exact Below.refl _ _ | refine Below.drew ?_ | refine below_drewN ?_ _ | refine Below.setCell ?_ (by first | omega | (simp; done) | (simp; omega)) _ | refine Below.alloc ?_ (by first | omega | (simp; done) | (simp; omega)) _ | refine Below.trans ?_ (Below.mono (by assumption) (by first | omega | (simp; done) | (simp; omega))))))).mono ?_; rintro e w1 ⟨hB, ⟨hn, rfl⟩ | ⟨hn, hw, rfl⟩ | ⟨hn, hw, fb, gg, cap, rfl, hcap, hcap2, hgg, hgg2, hfb, hfb2, ⟨q0, q1, q2, q3, q4, q5, q6, q7⟩, hCr⟩⟩)
  · refine bodyPost_ret (v := .tuple #[I 0, I 1]) (by simp [results, Try.results27, go_sem]) rfl ⟨?_, below_call (by (repeat' (first | assumption | exact Below.refl _ _ | refine Below.drew ?_ | refine below_drewN ?_ _ | refine Below.setCell ?_ (by first | omega | (simp; done) | (simp; omega)) _ | refine Below.alloc ?_ (by first | omega | (simp; done) | (simp; omega)) _ | refine Below.trans ?_ (Below.mono (by assumption) (by first | omega | (simp; done) | (simp; omega)))))) hB⟩
    rw [← HP.out]
    exact .inl ⟨hn, rfl⟩
  · refine bodyPost_ret (v := .tuple #[I 0, I 6]) (by simp [results, Try.results27, go_sem]) rfl ⟨?_, below_call (by (repeat' (first | assumption | exact Below.refl _ _ | refine Below.drew ?_ | refine below_drewN ?_ _ | refine Below.setCell ?_ (by first | omega | (simp; done) | (simp; omega)) _ | refine Below.alloc ?_ (by first | omega | (simp; done) | (simp; omega)) _ | refine Below.trans ?_ (Below.mono (by assumption) (by first | omega | (simp; done) | (simp; omega)))))) hB⟩
    rw [← HP.out]
    exact .inr (.inl ⟨hn, hw, rfl⟩)
  · have hB1 := below_call (w := w) (by (repeat' (first | assumption | exact Below.refl _ _ | refine Below.drew ?_ | refine below_drewN ?_ _ | refine Below.setCell ?_ (by first | omega | (simp; done) | (simp; omega)) _ | refine Below.alloc ?_ (by first | omega | (simp; done) | (simp; omega)) _ | refine Below.trans ?_ (Below.mono (by assumption) (by first | omega | (simp; done) | (simp; omega)))))) hB
    have HN := Lib.hid hn
    have HW := Lib.hid hw
    have hz1 := hB1.size
    have hcon := fun fv (h : fv = fieldV g.firm gg cap (crustL g.radar l) Ap Al cp cl d) => HBR.out (w1.alloc (.cells #[.func (.func 52) #[fv] #[]] 91)) (by (repeat' (first | assumption | exact Below.refl _ _ | refine Below.drew ?_ | refine below_drewN ?_ _ | refine Below.setCell ?_ (by first | omega | (simp; done) | (simp; omega)) _ | refine Below.alloc ?_ (by first | omega | (simp; done) | (simp; omega)) _ | refine Below.trans ?_ (Below.mono (by assumption) (by first | omega | (simp; done) | (simp; omega)))))) gg cap w1.heap.size hn (by simp; omega) (by simp) (hCr.below (B := w1.heap.size) (by (repeat' (first | assumption | exact Below.refl _ _ | refine Below.drew ?_ | refine below_drewN ?_ _ | refine Below.setCell ?_ (by first | omega | (simp; done) | (simp; omega)) _ | refine Below.alloc ?_ (by first | omega | (simp; done) | (simp; omega)) _ | refine Below.trans ?_ (Below.mono (by assumption) (by first | omega | (simp; done) | (simp; omega)))))) hgg2) ⟨hcap2, hcap⟩ (by simp [go_sem, h])
    clear hn hw
    have hcon2 := fun fv h => (hcon fv h).mono (R' := fun e w' => (e = .returned (I 0) ∧ (bearsB (d.pe (0 : Nat)) (crustL g.radar l) g.firm = false) ∧ Below (w1.alloc (.cells #[.func (.func 52) #[fv] #[]] 91)).heap.size (w1.alloc (.cells #[.func (.func 52) #[fv] #[]] 91)) w') ∨
        (∃ r : Nat, e = .returned (I r) ∧ (1 : Int) ≤ r ∧ ((r : Int) == 0) = false ∧ r ≤ 101 ∧ (bearsB (d.pe (r - 1 : Nat)) (crustL g.radar l) g.firm = true) ∧ (r < 101 → bearsB (d.pe r) (crustL g.radar l) g.firm = false) ∧ Below (w1.alloc (.cells #[.func (.func 52) #[fv] #[]] 91)).heap.size (w1.alloc (.cells #[.func (.func 52) #[fv] #[]] 91)) w')) (by
      rintro e w2 ⟨r, rfl, hr, hr1, hr2, hB2⟩
      rcases Nat.eq_zero_or_pos r with rfl | h0
      · exact .inl ⟨rfl, by simpa using hr2 (by omega), hB2⟩
      · exact .inr ⟨r, rfl, by omega, by simp; omega, hr, by simpa using hr1 h0, fun h => by simpa using hr2 h, hB2⟩)
    clear hcon
    go_wp2_with (go_at_call 53; refine (hcon2 _ (by simp [fieldV, hlen])).mono ?_; rintro e w2 (⟨rfl, hr2, hB2⟩ | ⟨r, rfl, h01, h02, hr, hr1, hr2, hB2⟩))
    · refine bodyPost_ret (v := .tuple #[I 0, I 4]) (by simp [results, Try.results27, go_sem]) rfl ⟨?_, below_call (w := w) (W := w1.alloc _) (by (repeat' (first | assumption | exact Below.refl _ _ | refine Below.drew ?_ | refine below_drewN ?_ _ | refine Below.setCell ?_ (by first | omega | (simp; done) | (simp; omega)) _ | refine Below.alloc ?_ (by first | omega | (simp; done) | (simp; omega)) _ | refine Below.trans ?_ (Below.mono (by assumption) (by first | omega | (simp; done) | (simp; omega)))))) hB2⟩
      rw [← HP.out]
      exact .inr (.inr ⟨HN.out, HW.out, 0, by omega, by omega, fun _ => hr2, .inl ⟨rfl, rfl⟩⟩)
    · refine bodyPost_ret (v := .tuple #[I ((r : Int) - 1), I 0]) (by simp [results, Try.results27, go_sem]) rfl ⟨?_, below_call (w := w) (W := w1.alloc _) (by (repeat' (first | assumption | exact Below.refl _ _ | refine Below.drew ?_ | refine below_drewN ?_ _ | refine Below.setCell ?_ (by first | omega | (simp; done) | (simp; omega)) _ | refine Below.alloc ?_ (by first | omega | (simp; done) | (simp; omega)) _ | refine Below.trans ?_ (Below.mono (by assumption) (by first | omega | (simp; done) | (simp; omega)))))) hB2⟩
      rw [← HP.out]
      exact .inr (.inr ⟨HN.out, HW.out, r, hr, fun _ => hr1, hr2, .inr ⟨by omega, rfl⟩⟩)

set_option maxRecDepth 100000 in
set_option maxHeartbeats 2000000 in
theorem Apart_any (A : Option Addr) (c : Nat) (g : Grd) (B : Option Addr) (cb : Nat) (l : List (Int × Int × Int)) (Ap Al : Option Addr) (cp cl : Nat) (d : Deck) (w : World) (ha : Args w A g B l Ap Al d) :
    Calls Try.prog 29 #[g.val A c, .slice B l.length cb, d.val Ap Al cp cl] w fun e w' => ApartPost g l d e ∧ Below w.heap.size w w' := by
  have hFd' : ∀ W, Below w.heap.size w W → Calls Try.prog 48 #[g.val A c, .slice B l.length cb, d.val Ap Al cp cl] W (FieldPost g l Ap Al cp cl d W) := fun W hB =>
    have h := ha.below hB
    fieldOf_any A c g B cb l Ap Al cp cl d W h.hr h.hl h.hrl h.hll h.hp h.hb h.hpl h.hbl
  have hBr : ∀ W, Below w.heap.size w W → ∀ gg cap bx, AllOk g l d → gg < W.heap.size → bx < W.heap.size → Crust2 W gg (crustL g.radar l) → g.radar.length ≤ cap ∧ cap ≤ 9223372036854775807 →
      W.cell? ⟨bx, 0, none⟩ = some (.func (.func 52) #[fieldV g.firm gg cap (crustL g.radar l) Ap Al cp cl d] #[]) →
      Calls Try.prog 53 #[I (400 : Nat), .func (.func 56) #[] #[.pointer (some ⟨bx, 0, none⟩)]] W _ := fun W hB gg cap bx hok h2 h3 h4 h5 h6 =>
    search53 56 _ (enters_of Try.func56 (by kernel_rfl) rfl) 400 (by omega) (fun k => bearsB (d.ap (k + 1)) (crustL g.radar l) g.firm) W (fun k hk W' hB' =>
      have f := (field_ok ha hB hok h2 h4 h5).below hB'
      clo56 g.firm gg cap _ Ap Al cp cl d k hk bx W' f ((hB'.cell (p := ⟨bx, 0, none⟩) h3).trans h6))
  have HBR := Lib.hid hBr
  have hlen := crustL_length g.radar l
  generalize hP : ApartPost g l d = P
  have HP := Lib.hid hP
  clear hP ha hBr
  have eg : g.val A c = .agg #[I g.wide, I g.firm, .slice A g.radar.length c] := rfl
  have ed : d.val Ap Al cp cl = .agg #[.slice Ap d.posts.length cp, .slice Al d.lengths.length cl, I d.own, I d.weight, I d.apart, I d.persons] := rfl
  rw [eg, ed] at hFd' ⊢
  clear eg ed
  go_enter Try.func29, Try.ntmps29
  go_wp2_with (go_at_call 48; refine (hFd' _ (by (repeat' (first | assumption | exact Below.refl _ _ | refine Below.drew ?_ | refine below_drewN ?_ _ | refine Below.setCell ?_ (by first | omega | (simp; done) | (simp; omega)) _ | refine Below.alloc ?_ (by first | omega | (simp; done) | (simp; omega)) _ | refine Below.trans ?_ (Below.mono (by assumption) (by first | omega | (simp; done) | (simp; omega))))))).mono ?_; rintro e w1 ⟨hB, ⟨hn, rfl⟩ | ⟨hn, hw, rfl⟩ | ⟨hn, hw, fb, gg, cap, rfl, hcap, hcap2, hgg, hgg2, hfb, hfb2, ⟨q0, q1, q2, q3, q4, q5, q6, q7⟩, hCr⟩⟩)
  · refine bodyPost_ret (v := .tuple #[I 0, I 1]) (by simp [results, Try.results29, go_sem]) rfl ⟨?_, below_call (by (repeat' (first | assumption | exact Below.refl _ _ | refine Below.drew ?_ | refine below_drewN ?_ _ | refine Below.setCell ?_ (by first | omega | (simp; done) | (simp; omega)) _ | refine Below.alloc ?_ (by first | omega | (simp; done) | (simp; omega)) _ | refine Below.trans ?_ (Below.mono (by assumption) (by first | omega | (simp; done) | (simp; omega)))))) hB⟩
    rw [← HP.out]
    exact .inl ⟨hn, rfl⟩
  · refine bodyPost_ret (v := .tuple #[I 0, I 6]) (by simp [results, Try.results29, go_sem]) rfl ⟨?_, below_call (by (repeat' (first | assumption | exact Below.refl _ _ | refine Below.drew ?_ | refine below_drewN ?_ _ | refine Below.setCell ?_ (by first | omega | (simp; done) | (simp; omega)) _ | refine Below.alloc ?_ (by first | omega | (simp; done) | (simp; omega)) _ | refine Below.trans ?_ (Below.mono (by assumption) (by first | omega | (simp; done) | (simp; omega)))))) hB⟩
    rw [← HP.out]
    exact .inr (.inl ⟨hn, hw, rfl⟩)
  · have hB1 := below_call (w := w) (by (repeat' (first | assumption | exact Below.refl _ _ | refine Below.drew ?_ | refine below_drewN ?_ _ | refine Below.setCell ?_ (by first | omega | (simp; done) | (simp; omega)) _ | refine Below.alloc ?_ (by first | omega | (simp; done) | (simp; omega)) _ | refine Below.trans ?_ (Below.mono (by assumption) (by first | omega | (simp; done) | (simp; omega)))))) hB
    have HN := Lib.hid hn
    have HW := Lib.hid hw
    have hz1 := hB1.size
    have hcon := fun fv (h : fv = fieldV g.firm gg cap (crustL g.radar l) Ap Al cp cl d) => HBR.out (w1.alloc (.cells #[.func (.func 52) #[fv] #[]] 91)) (by (repeat' (first | assumption | exact Below.refl _ _ | refine Below.drew ?_ | refine below_drewN ?_ _ | refine Below.setCell ?_ (by first | omega | (simp; done) | (simp; omega)) _ | refine Below.alloc ?_ (by first | omega | (simp; done) | (simp; omega)) _ | refine Below.trans ?_ (Below.mono (by assumption) (by first | omega | (simp; done) | (simp; omega)))))) gg cap w1.heap.size hn (by simp; omega) (by simp) (hCr.below (B := w1.heap.size) (by (repeat' (first | assumption | exact Below.refl _ _ | refine Below.drew ?_ | refine below_drewN ?_ _ | refine Below.setCell ?_ (by first | omega | (simp; done) | (simp; omega)) _ | refine Below.alloc ?_ (by first | omega | (simp; done) | (simp; omega)) _ | refine Below.trans ?_ (Below.mono (by assumption) (by first | omega | (simp; done) | (simp; omega)))))) hgg2) ⟨hcap2, hcap⟩ (by simp [go_sem, h])
    clear hn hw
    have hcon2 := fun fv h => (hcon fv h).mono (R' := fun e w' => (∃ r : Nat, e = .returned (I r) ∧ (r : Int) + 1 ≤ 400 ∧ (0 < r → bearsB (d.ap ((r - 1 : Nat) + 1)) (crustL g.radar l) g.firm = false) ∧ (bearsB (d.ap (r + 1)) (crustL g.radar l) g.firm = true) ∧ Below (w1.alloc (.cells #[.func (.func 52) #[fv] #[]] 91)).heap.size (w1.alloc (.cells #[.func (.func 52) #[fv] #[]] 91)) w') ∨
        (e = .returned (I 400) ∧ (bearsB (d.ap ((400 - 1 : Nat) + 1)) (crustL g.radar l) g.firm = false) ∧ Below (w1.alloc (.cells #[.func (.func 52) #[fv] #[]] 91)).heap.size (w1.alloc (.cells #[.func (.func 52) #[fv] #[]] 91)) w')) (by
      rintro e w2 ⟨r, rfl, hr, hr1, hr2, hB2⟩
      rcases Nat.lt_or_ge r 400 with h0 | h0
      · exact .inl ⟨r, rfl, by omega, hr1, hr2 h0, hB2⟩
      · obtain rfl : r = 400 := by omega
        exact .inr ⟨rfl, hr1 (by omega), hB2⟩)
    clear hcon
    go_wp2_with (go_at_call 53; refine (hcon2 _ (by simp [fieldV, hlen])).mono ?_; rintro e w2 (⟨r, rfl, h01, hr1, hr2, hB2⟩ | ⟨rfl, hr1, hB2⟩))
    · refine bodyPost_ret (v := .tuple #[I ((r : Int) + 1), I 0]) (by simp [results, Try.results29, go_sem]; omega) rfl ⟨?_, below_call (w := w) (W := w1.alloc _) (by (repeat' (first | assumption | exact Below.refl _ _ | refine Below.drew ?_ | refine below_drewN ?_ _ | refine Below.setCell ?_ (by first | omega | (simp; done) | (simp; omega)) _ | refine Below.alloc ?_ (by first | omega | (simp; done) | (simp; omega)) _ | refine Below.trans ?_ (Below.mono (by assumption) (by first | omega | (simp; done) | (simp; omega)))))) hB2⟩
      rw [← HP.out]
      exact .inr (.inr ⟨HN.out, HW.out, r, by omega, hr1, fun _ => hr2, .inr ⟨by omega, rfl⟩⟩)
    · refine bodyPost_ret (v := .tuple #[I 0, I 4]) (by simp [results, Try.results29, go_sem]) rfl ⟨?_, below_call (w := w) (W := w1.alloc _) (by (repeat' (first | assumption | exact Below.refl _ _ | refine Below.drew ?_ | refine below_drewN ?_ _ | refine Below.setCell ?_ (by first | omega | (simp; done) | (simp; omega)) _ | refine Below.alloc ?_ (by first | omega | (simp; done) | (simp; omega)) _ | refine Below.trans ?_ (Below.mono (by assumption) (by first | omega | (simp; done) | (simp; omega)))))) hB2⟩
      rw [← HP.out]
      exact .inr (.inr ⟨HN.out, HW.out, 400, by omega, fun _ => hr1, fun h => by omega, .inl ⟨rfl, rfl⟩⟩)
end Go.Proofs.Ytilmlgngnbokfaa
