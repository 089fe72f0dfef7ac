/- CrowdMore: a copy's parts, one by one; an append that tells its block. -/
import Derived.Test.YtomfnldlnoiloaaDoorCr
namespace Go.Proofs.YtomfnldlnoiloaaDoor
set_option linter.unusedVariables false
set_option linter.unusedSimpArgs false
open Go Go.RowKit Go.Maps

section
variable {P : Program}
/-- An append to one's own row: the row stays where it was, or lies in a new block. -/
theorem run_append_blk (w : World) (base : Nat) (t ty e : TypeId) (i : TypeInfo) (z : Value) (size bytes : Nat) (ht : P.underlying t = some (.slice e)) (hi : P.info? e = some i) (hz : i.zero = some z)
    (hsize : i.size = size) (hby : i.bytes = bytes) (hzs : z.cells.size = size) (hsz : 0 < size)
    (v : Value) (n : Nat) (xs : List Value) (hown : w.ownsRow base e size v n xs)
    (a : Addr) (m c : Nat) (news : List Value) (hm : 0 < m) (hl : news.length = m * size) (hnews : ∀ j u, news[j]? = some u → w.cell? (a.add j) = some u) (h1 : ∀ u ∈ news, u.oneCell' = true)
    (h63 : n + m ≤ maxLen) (hbytes : (n + m) * bytes ≤ 140737488355328) (hbase : base ≤ w.heap.size) :
    ∃ v' w', (Builtin.append_ #[t, t] ty #[v, .slice (some a) m c]).run P w = .ok v' w' ∧ w'.ownsRow base e size v' (n + m) (xs ++ news) ∧ w.grownBy w' v.ownBlock ∧ (v'.ownBlock = v.ownBlock ∨ v'.ownBlock = some w.heap.size) := by
  obtain ⟨v', w', hr, h2, h3, h4⟩ := run_append_own (P := P) w base t ty e i z size bytes ht hi hz hsize hby hzs hsz v n xs hown a m c news hl hnews h1 h63 hbytes hbase
  refine ⟨v', w', hr, h2, h3, ?_⟩
  have hsmall : n + m ≤ 9223372036854775807 := by simp only [maxLen] at h63; omega
  rcases hown.2 with ⟨rfl, rfl⟩ | ⟨g, cap, cur, rfl, hbg, hg, hnc, hcm, hcs, htake⟩
  · subst hsize
    subst hby
    have hr' := run_append_nil (P := P) w t ty e i z ht hi hz a m c news hl hnews hm (by omega) (by have hb := hbytes; simp only [Nat.zero_add] at hb; omega)
    rw [hr] at hr'
    right
    injection hr' with e1 e2
    rw [e1]
    rfl
  · by_cases hroom : n + m ≤ cap
    · obtain ⟨w'', hr', _⟩ := run_append_fits (P := P) w base t ty e i size ht hi hsize g n cap xs hown a m c news hl hnews h1 hroom
      rw [hr] at hr'
      left
      injection hr' with e1 e2
      rw [e1]
      rfl
    · subst hsize
      subst hby
      have hr' := run_append_grow (P := P) w t ty e i z ht hi hz ⟨g, 0, none⟩ n cap xs hown.1 (hown.cells (g := g) rfl) a m c news hl hnews (by omega) (by omega) (growslice_fits (by omega) hbytes)
      rw [hr] at hr'
      right
      injection hr' with e1 e2
      rw [e1]
      rfl
theorem wpList_append_blk (w : World) {ops : Array Oper} {rest : List Oper} {o : Oper} {a : Act} {Q : Exit → Act → World → Prop} (hgd : o.guard = none) (s x : Operand) (t : TypeId)
    (ho : o.op = .call { callee := .builtin .append, args := #[s, x], argTypes := #[t, t] })
    (base : Nat) (e : TypeId) (i : TypeInfo) (z : Value) (size bytes : Nat) (ht : P.underlying t = some (.slice e)) (hi : P.info? e = some i) (hz : i.zero = some z)
    (hsize : i.size = size) (hby : i.bytes = bytes) (hzs : z.cells.size = size) (hsz : 0 < size)
    (v : Value) (k : Nat) (xs : List Value) (hs : a.eval s = v) (hown : w.ownsRow base e size v k xs)
    (ad : Addr) (m c : Nat) (news : List Value) (hx : a.eval x = .slice (some ad) m c) (hm : 0 < m) (hl : news.length = m * size) (hnews : ∀ j u, news[j]? = some u → w.cell? (ad.add j) = some u) (h1 : ∀ u ∈ news, u.oneCell' = true)
    (h63 : k + m ≤ maxLen) (hbytes : (k + m) * bytes ≤ 140737488355328) (hbase : base ≤ w.heap.size)
    (h : ∀ v' w', w'.ownsRow base e size v' (k + m) (xs ++ news) → w.grownBy w' v.ownBlock → (v'.ownBlock = v.ownBlock ∨ v'.ownBlock = some w.heap.size) → wpList P ops Q rest (a.put o.dst v') w') : wpList P ops Q (o :: rest) a w :=
  wpList_plain hgd fun _ hK => by
    obtain ⟨v', w', hr, h2, h3, h4⟩ := run_append_blk (P := P) w base t o.type e i z size bytes ht hi hz hsize hby hzs hsz v k xs hown ad m c news hm hl hnews h1 h63 hbytes hbase
    unfold Oper.wp execOp
    simp only [ho, resolve, invoke, builtin, Sem.run_bind, Sem.run_pure, Result.andThen_ok, List.map_toArray, List.map_cons, List.map_nil, hs, hx, hr]
    exact hK _ _ (h v' w' h2 h3 h4)
end
section
variable {N : Nat} {w8 : World} {vs : Nat → Vis} {gs : Nat → Nat} {W W' : World}
theorem Cpy.vis (h : Cpy N w8 vs gs W) (i : Nat) (hi : i < 4) : ∃ B1 B2 B3 c1 c2 c3, Box W (gs i) [.slice B1 (vs i).rm.length c1, .slice B2 (vs i).tr.length c2, .slice B3 (vs i).ar.length c3] ∧ VisAt W W.heap.size (vs i) B1 B2 B3 ∧ N ≤ gs i := by
  obtain ⟨B1, B2, B3, c1, c2, c3, h1, h2, h3, _⟩ := h.get i hi
  exact ⟨B1, B2, B3, c1, c2, c3, h2, h1.vis, h3⟩
theorem Cpy.room (h : Cpy N w8 vs gs W) (i : Nat) (hi : i < 4) (k : Nat) (hk : k < (vs i).rm.length) : ∃ g c1 A2 A3 c2 c3, Box W (gs i) [.slice (some ⟨g, 0, none⟩) (vs i).rm.length c1, .slice A2 (vs i).tr.length c2, .slice A3 (vs i).ar.length c3] ∧
    W.cell? ⟨g, k, none⟩ = some (I (vs i).rm[k]) ∧ W.frozen? ⟨g, k, none⟩ = false ∧ N ≤ g ∧ ∀ x, Cpy N w8 (updT vs i ⟨(vs i).rm.set k x, (vs i).tr, (vs i).ar⟩) gs (W.setCell ⟨g, k, none⟩ (I x)) := by
  obtain ⟨B1, B2, B3, c1, c2, c3, h1, h2, h3, h4, h5⟩ := h.get i hi
  obtain ⟨g, rfl, hg1, hg2⟩ := own4_form h1.r1 (by omega)
  refine ⟨g, c1, B2, B3, c2, c3, h2, ?_, h1.r1.frozenAt k, hg1, fun x => ?_⟩
  · rw [h1.r1.cellAt k (by omega), List.getElem?_map, List.getElem?_eq_getElem hk]
    rfl
  · have hb : Blk3 (some ⟨g, 0, none⟩) B2 B3 g := .inl ⟨_, rfl, rfl⟩
    refine h5 _ _ (some ⟨g, 0, none⟩) B2 B3 c1 c2 c3 ((Frm.refl _ _ _).setCell (.inr (.inl hb)) _) (fun y hy => .inl hy) (h1.setRoom k x) ?_
    have := h2.far (p := ⟨g, k, none⟩) (fun e => h4 (by rw [← e]; exact hb)) (I x)
    simpa using this
theorem Cpy.trail (h : Cpy N w8 vs gs W) (i : Nat) (hi : i < 4) (k : Nat) (hk : k < (vs i).tr.length) : ∃ g c2 A1 A3 c1 c3, Box W (gs i) [.slice A1 (vs i).rm.length c1, .slice (some ⟨g, 0, none⟩) (vs i).tr.length c2, .slice A3 (vs i).ar.length c3] ∧
    W.cell? ⟨g, k * 4 + 3, none⟩ = some (I (vs i).tr[k].2.2.2) ∧ W.frozen? ⟨g, k * 4 + 3, none⟩ = false ∧ N ≤ g ∧ ∀ x, Cpy N w8 (updT vs i ⟨(vs i).rm, (vs i).tr.set k ((vs i).tr[k].1, (vs i).tr[k].2.1, (vs i).tr[k].2.2.1, x), (vs i).ar⟩) gs (W.setCell ⟨g, k * 4 + 3, none⟩ (I x)) := by
  obtain ⟨B1, B2, B3, c1, c2, c3, h1, h2, h3, h4, h5⟩ := h.get i hi
  obtain ⟨g, rfl, hg1, hg2⟩ := own4_form h1.r2 (by omega)
  refine ⟨g, c2, B1, B3, c1, c3, h2, ?_, h1.r2.frozenAt _, hg1, fun x => ?_⟩
  · rw [h1.r2.cellAt (k * 4 + 3) (by omega)]
    exact (flat4_get _ k hk).2.2.2
  · have hb : Blk3 B1 (some ⟨g, 0, none⟩) B3 g := .inr (.inl ⟨_, rfl, rfl⟩)
    refine h5 _ _ B1 (some ⟨g, 0, none⟩) B3 c1 c2 c3 ((Frm.refl _ _ _).setCell (.inr (.inl hb)) _) (fun y hy => .inl hy) (h1.setTrail k hk x) ?_
    have := h2.far (p := ⟨g, k * 4 + 3, none⟩) (fun e => h4 (by rw [← e]; exact hb)) (I x)
    simpa using this
theorem Cpy.people (h : Cpy N w8 vs gs W) (i : Nat) (hi : i < 4) (k : Nat) (hk : k < (vs i).ar.length) : ∃ g c3 A1 A2 c1 c2, Box W (gs i) [.slice A1 (vs i).rm.length c1, .slice A2 (vs i).tr.length c2, .slice (some ⟨g, 0, none⟩) (vs i).ar.length c3] ∧
    W.cell? ⟨g, k * 3 + 2, none⟩ = some (I (vs i).ar[k].2.2) ∧ W.frozen? ⟨g, k * 3 + 2, none⟩ = false ∧ N ≤ g ∧ ∀ x, Cpy N w8 (updT vs i ⟨(vs i).rm, (vs i).tr, (vs i).ar.set k ((vs i).ar[k].1, (vs i).ar[k].2.1, x)⟩) gs (W.setCell ⟨g, k * 3 + 2, none⟩ (I x)) := by
  obtain ⟨B1, B2, B3, c1, c2, c3, h1, h2, h3, h4, h5⟩ := h.get i hi
  obtain ⟨g, rfl, hg1, hg2⟩ := own4_form h1.r3 (by omega)
  refine ⟨g, c3, B1, B2, c1, c2, h2, ?_, h1.r3.frozenAt _, hg1, fun x => ?_⟩
  · rw [h1.r3.cellAt (k * 3 + 2) (by omega)]
    exact (flat3_get _ k hk).2.2
  · have hb : Blk3 B1 B2 (some ⟨g, 0, none⟩) g := .inr (.inr ⟨_, rfl, rfl⟩)
    refine h5 _ _ B1 B2 (some ⟨g, 0, none⟩) c1 c2 c3 ((Frm.refl _ _ _).setCell (.inr (.inl hb)) _) (fun y hy => .inl hy) (h1.setPeople k hk x) ?_
    have := h2.far (p := ⟨g, k * 3 + 2, none⟩) (fun e => h4 (by rw [← e]; exact hb)) (I x)
    simpa using this
/-- The row of trails, to which one more can be appended. -/
theorem Cpy.more (h : Cpy N w8 vs gs W) (i : Nat) (hi : i < 4) : ∃ B1 B2 B3 c1 c2 c3, W.ownsRow N 51 4 (.slice B2 (vs i).tr.length c2) (vs i).tr.length (flat4 (vs i).tr) ∧ Box W (gs i) [.slice B1 (vs i).rm.length c1, .slice B2 (vs i).tr.length c2, .slice B3 (vs i).ar.length c3] ∧
    ∀ (v' : Value) (W' : World) (x : Int × Int × Int × Int), W'.ownsRow N 51 4 v' ((vs i).tr.length + 1) (flat4 (vs i).tr ++ [I x.1, I x.2.1, I x.2.2.1, I x.2.2.2]) → W.grownBy W' (Value.slice B2 (vs i).tr.length c2).ownBlock → (v'.ownBlock = (Value.slice B2 (vs i).tr.length c2).ownBlock ∨ v'.ownBlock = some W.heap.size) →
      (∃ y, W'.cell? ⟨gs i, 1, none⟩ = some y) ∧ W'.frozen? ⟨gs i, 1, none⟩ = false ∧ Cpy N w8 (updT vs i (trV (vs i) x)) gs (W'.setCell ⟨gs i, 1, none⟩ v') := by
  obtain ⟨B1, B2, B3, c1, c2, c3, h1, h2, h3, h4, h5⟩ := h.get i hi
  refine ⟨B1, B2, B3, c1, c2, c3, h1.r2, h2, fun v' W' x ho hg hbk => ?_⟩
  have hne : (Value.slice B2 (vs i).tr.length c2).ownBlock ≠ some (gs i) := fun e => h4 (.inr (.inl (own_blk e)))
  have hbx := h2.grown hg hne
  obtain ⟨y1, z1⟩ := hbx.at_ 1 _ rfl
  refine ⟨⟨_, y1⟩, z1, ?_⟩
  obtain ⟨g', cap', rfl, hg', hgz⟩ : ∃ g cap, v' = .slice (some ⟨g, 0, none⟩) ((vs i).tr.length + 1) cap ∧ N ≤ g ∧ g < W'.heap.size := by
    rcases own_formS ho with ⟨_, h7⟩ | ⟨g, cap, h7, h8, h9⟩
    · omega
    · exact ⟨g, cap, h7, h8, h9⟩
  have hblk : ∀ y, Blk3 B1 (some ⟨g', 0, none⟩) B3 y → Blk3 B1 B2 B3 y ∨ W.heap.size ≤ y := fun y hy => by
    rcases hy with hy | ⟨a, ha, hy⟩ | hy
    · exact .inl (.inl hy)
    · cases ha
      rcases hbk with hb | hb
      · exact .inl (.inr (.inl (own_blk (hb.symm.trans (by rw [← hy]; rfl)))))
      · right
        have e : g' = W.heap.size := by simpa [Value.ownBlock] using hb
        rw [← hy]; exact Nat.le_of_eq e.symm
    · exact .inl (.inr (.inr hy))
  have hgs : gs i < W.heap.size := h2.1
  have hne2 : g' ≠ gs i := fun e => by
    rcases hblk g' (.inr (.inl ⟨_, rfl, rfl⟩)) with h8 | h8
    · rw [e] at h8; exact h4 h8
    · omega
  have key : ∀ {e : TypeId} {sz n : Nat} {r : Value} {xs : List Value}, W'.ownsRow N e sz r n xs → (r.ownBlock ≠ some (gs i)) → (W'.setCell ⟨gs i, 1, none⟩ (.slice (some ⟨g', 0, none⟩) ((vs i).tr.length + 1) cap')).ownsRow N e sz r n xs := fun ho hn => own_at ho fun g hg => Below.heap_setCell _ _ _ _ (by
    intro e2
    exact hn (hg.trans (by rw [e2])))
  have k1 := key (h1.r1.kept hg (own_ne h1.r1 h1.r2 (by decide))) (fun e => h4 (.inl (own_blk e)))
  have k3 := key (h1.r3.kept hg (own_ne h1.r3 h1.r2 (by decide))) (fun e => h4 (.inr (.inr (own_blk e))))
  have k2 := key ho (fun e => hne2 (by simpa [Value.ownBlock] using e))
  have e4 : flat4 (vs i).tr ++ [I x.1, I x.2.1, I x.2.2.1, I x.2.2.2] = flat4 ((vs i).tr ++ [x]) := by simp [flat4]
  rw [e4] at k2
  refine h5 _ (trV (vs i) x) B1 (some ⟨g', 0, none⟩) B3 c1 cap' c3 (Frm.setCell ((Frm.refl _ _ _).grown hg (Nat.le_refl _) fun k hk => .inr (.inl (.inr (.inl (own_blk hk))))) (.inr (.inr rfl)) _) hblk ⟨k1, ?_, k3⟩ ?_
  · have : (trV (vs i) x).tr.length = (vs i).tr.length + 1 := by simp [trV]
    rw [this]
    exact k2
  · have := hbx.set 1 (.slice (some ⟨g', 0, none⟩) ((vs i).tr.length + 1) cap')
    simpa [trV] using this
end
def vs4 (a b c d : Vis) : Nat → Vis
  | 0 => a
  | 1 => b
  | 2 => c
  | _ => d
theorem vs4_0 (a b c d x : Vis) : updT (vs4 a b c d) 0 x = vs4 x b c d := funext fun i => by
  rcases i with _ | _ | _ | i <;> rfl
theorem vs4_1 (a b c d x : Vis) : updT (vs4 a b c d) 1 x = vs4 a x c d := funext fun i => by
  rcases i with _ | _ | _ | i <;> rfl
theorem vs4_2 (a b c d x : Vis) : updT (vs4 a b c d) 2 x = vs4 a b x d := funext fun i => by
  rcases i with _ | _ | _ | i <;> rfl
theorem vs4_all (v : Vis) : (fun _ => v) = vs4 v v v v := funext fun i => by
  rcases i with _ | _ | _ | i <;> rfl
/-- Thing 3, of which alone is spoken behind the three. -/
theorem Cpy.three {N : Nat} {w8 : World} {vs : Nat → Vis} {gs : Nat → Nat} {W : World} (h : Cpy N w8 vs gs W) {x : Vis} (hx : vs 3 = x) : Cpy N w8 (updT vs 3 x) gs W := by
  have : updT vs 3 x = vs := funext fun i => by
    unfold updT
    split
    · rename_i e; rw [e, hx]
    · rfl
  rw [this]; exact h
theorem updT_updT {α : Type} (f : Nat → α) (k : Nat) (a b : α) : updT (updT f k a) k b = updT f k b := funext fun i => by
  unfold updT
  split <;> rfl
section
variable {N : Nat} {w8 : World} {f : Nat → Vis} {X : Vis} {gs : Nat → Nat} {W : World}
theorem Cpy.room3 (h : Cpy N w8 (updT f 3 X) gs W) (k : Nat) (hk : k < X.rm.length) : ∃ g c1 A2 A3 c2 c3, Box W (gs 3) [.slice (some ⟨g, 0, none⟩) X.rm.length c1, .slice A2 X.tr.length c2, .slice A3 X.ar.length c3] ∧
    W.cell? ⟨g, k, none⟩ = some (I X.rm[k]) ∧ W.frozen? ⟨g, k, none⟩ = false ∧ N ≤ g ∧ ∀ x, Cpy N w8 (updT f 3 ⟨X.rm.set k x, X.tr, X.ar⟩) gs (W.setCell ⟨g, k, none⟩ (I x)) := by
  have := h.room 3 (by decide) k (by rw [updT_same]; exact hk)
  simpa only [updT_same, updT_updT] using this
theorem Cpy.trail3 (h : Cpy N w8 (updT f 3 X) gs W) (k : Nat) (hk : k < X.tr.length) : ∃ g c2 A1 A3 c1 c3, Box W (gs 3) [.slice A1 X.rm.length c1, .slice (some ⟨g, 0, none⟩) X.tr.length c2, .slice A3 X.ar.length c3] ∧
    W.cell? ⟨g, k * 4 + 3, none⟩ = some (I X.tr[k].2.2.2) ∧ W.frozen? ⟨g, k * 4 + 3, none⟩ = false ∧ N ≤ g ∧ ∀ x, Cpy N w8 (updT f 3 ⟨X.rm, X.tr.set k (X.tr[k].1, X.tr[k].2.1, X.tr[k].2.2.1, x), X.ar⟩) gs (W.setCell ⟨g, k * 4 + 3, none⟩ (I x)) := by
  have := h.trail 3 (by decide) k (by rw [updT_same]; exact hk)
  simpa only [updT_same, updT_updT] using this
theorem Cpy.people3 (h : Cpy N w8 (updT f 3 X) gs W) (k : Nat) (hk : k < X.ar.length) : ∃ g c3 A1 A2 c1 c2, Box W (gs 3) [.slice A1 X.rm.length c1, .slice A2 X.tr.length c2, .slice (some ⟨g, 0, none⟩) X.ar.length c3] ∧
    W.cell? ⟨g, k * 3 + 2, none⟩ = some (I X.ar[k].2.2) ∧ W.frozen? ⟨g, k * 3 + 2, none⟩ = false ∧ N ≤ g ∧ ∀ x, Cpy N w8 (updT f 3 ⟨X.rm, X.tr, X.ar.set k (X.ar[k].1, X.ar[k].2.1, x)⟩) gs (W.setCell ⟨g, k * 3 + 2, none⟩ (I x)) := by
  have := h.people 3 (by decide) k (by rw [updT_same]; exact hk)
  simpa only [updT_same, updT_updT] using this
theorem Cpy.vis3 (h : Cpy N w8 (updT f 3 X) gs W) : ∃ B1 B2 B3 c1 c2 c3, Box W (gs 3) [.slice B1 X.rm.length c1, .slice B2 X.tr.length c2, .slice B3 X.ar.length c3] ∧ VisAt W W.heap.size X B1 B2 B3 ∧ N ≤ gs 3 := by
  have := h.vis 3 (by decide)
  simpa only [updT_same] using this
end
theorem most_rangeM {v : Vis} (hv : VisOk v) {p m : Nat} (hp : p < v.n) {val : Int} {R : Nat → Bool} (h : MostIs v p m val R) : 0 ≤ val ∧ val ≤ v.room p := by
  constructor
  · rw [h.width]
    unfold widL
    refine lsum_nn fun a ha => ?_
    have := (netD_ok hv (p := p) (m := m) hp).cap a ha
    unfold crossA
    split <;> omega
  · have h1 := h.least (fun x => x != snkN v m) (by simp [snkN]) (by simp)
    rw [(most_sink (v := v) (p := p) (m := m) hv hp).2] at h1
    exact h1
end Go.Proofs.YtomfnldlnoiloaaDoor
