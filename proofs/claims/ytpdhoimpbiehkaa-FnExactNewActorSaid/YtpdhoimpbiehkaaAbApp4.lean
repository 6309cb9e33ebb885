/- append: the machine does what the abstract values say. -/
import Derived.Test.YtpdhoimpbiehkaaAbApp3
namespace Go.Proofs.Ytpdhoimpbiehkaa.Ab
open Go
set_option linter.unusedVariables false
set_option linter.unusedSimpArgs false

section
variable {P : Program} {T : Tab} {S0 : Nat → Prop} {st : St} {a : Act} {w : World} {φ : List (Option Loc)} {fs : List Nat}

/-- Nothing at all stands in the new row. -/
theorem app_none (h : SRel S0 st a w φ fs) {base : Nat} {k : Option Nat} {f1 fk f2 : List Nat} (hsplit : fs = f1 ++ (fk ++ f2)) (hf : hfree st.heap φ base)
    (hk : ∃ h1 : Heap, h1 = (hkill st.heap k) ∧ hfree h1 φ base ∧ HRel w (Sof S0 fs) φ h1 φ (f1 ++ f2)) (sz : Nat) (ad : Option Addr) :
    ∃ fs' φ', SRel S0 { st with heap := hput (hkill st.heap k) base (sz, []) } a w φ' fs' ∧ Fr (fun g => g ∈ fs) w w ∧ (∀ b, b ∈ fs' → b ∈ fs ∨ w.heap.size ≤ b) ∧ Ext φ φ' ∧
      Rel w (Sof S0 fs') φ' (.sl base 0 0) (.slice ad 0 0) [] := by
  obtain ⟨fs', g1, g2, g3, g4, g5⟩ := h.swap (base := base) (k := k) hf hsplit hk (l := ⟨0, 0, 0, sz⟩) (b := (sz, [])) (fb := []) (Fr.refl (fun _ => False) w) (fun _ h => h.elim) (by simp) (by simp)
    (fun S' hS' => ⟨rfl, .inl ⟨rfl, rfl, rfl⟩⟩)
  exact ⟨fs', _, g1, g2, g3, g4, .sl g5 rfl (Nat.le_refl _) (fun h => absurd h (by omega))⟩

theorem aappend_run (hT : T.ok P) (h : SRel S0 st a w φ fs) {base : Nat} (hf : hfree st.heap φ base) {o : Oper} {sz : Nat} {es : List (List A)} {k : Option Nat} (hv : aappend T st.env st.heap o.op = some ((sz, es), k)) :
    ∃ v w' φ' fs', (execOp a.eval o).run P w = .ok (.value v) w' ∧ SRel S0 { st with heap := hput (hkill st.heap k) base (sz, es) } a w' φ' fs' ∧ Fr (fun g => g ∈ fs) w w' ∧ (∀ b, b ∈ fs' → b ∈ fs ∨ w.heap.size ≤ b) ∧ Ext φ φ' ∧
      Rel w' (Sof S0 fs') φ' (.sl base 0 es.length) v [] := by
  unfold execOp
  cases hop : o.op <;> rw [hop] at hv <;> simp only [aappend, reduceCtorEq] at hv
  case call c =>
    obtain ⟨callee, args, argTypes⟩ := c
    simp only at hv
    split at hv
    · rename_i s x t t' h1 h2
      obtain rfl : args = #[s, x] := by apply Array.ext'; simpa using h1
      obtain rfl : argTypes = #[t, t'] := by apply Array.ext'; simpa using h2
      clear h1 h2
      split at hv
      · rename_i e hk
        obtain ⟨it, hit, hk, hft⟩ := kind_some hT hk
        have hu := under_slice hft hk
        split at hv
        · rename_i i hi
          obtain ⟨d, inf, z, q1, q2, q3, q4, q5, q6, q7, q8⟩ := fits_info (hT _ _ hi)
          split at hv
          · rename_i xs ys hxs hys
            split at hv
            · rename_i hcond
              obtain ⟨rfl, hz0, hcopy, h63, hby⟩ := hcond
              have hzs : z.cells.size = i.size := by have := (simples_rel (w := w) (S := Sof S0 fs) (φ := φ) q7).length; rw [q8] at this; simpa using this.symm
              obtain ⟨ad, c, vs, f, ev1, hc1, hux, hrx, hcx, hnx⟩ := src_run h hxs (ev_rel h s)
              obtain ⟨ax, cx, us, fy, ev2, hc2, huy, hry, hcy, hny⟩ := src_run h hys (ev_rel h x)
              obtain ⟨rfl, hone⟩ := copy_fp hry hcopy
              have hul := hry.length
              have hvl := hrx.length
              rw [flat_len huy] at hul
              rw [flat_len hux] at hvl
              have hfy : ∀ w2 : World, w2.heap = w.heap → (Builtin.firstCells inf.size ys.length (.slice ax ys.length cx)).run P w2 = .ok us.toArray w2 := fun w2 hw2 =>
                firstCells_run (P := P) (w := w2) inf.size ys.length cx ax us (by rw [q4]; exact hul.symm) (fun b hb k v hk => (cell_congr (by rw [hw2])).trans (hcy b hb k v hk)) hny
              have hfx : ∀ w2 : World, w2.heap = w.heap → (Builtin.firstCells inf.size xs.length (.slice ad xs.length c)).run P w2 = .ok vs.toArray w2 := fun w2 hw2 =>
                firstCells_run (P := P) (w := w2) inf.size xs.length c ad vs (by rw [q4]; exact hvl.symm) (fun b hb k v hk => (cell_congr (by rw [hw2])).trans (hcx b hb k v hk)) hnx
              have hu2 : P.underlying t = some (.slice e) := hu
              simp only [resolve, invoke, builtin, Sem.run_bind, Sem.run_pure, Result.andThen_ok, List.map_toArray, List.map_cons, List.map_nil, ev1, ev2]
              -- the row of old cells: whose it is
              have main : ∀ (k0 : Option Nat) (f1 fk f2 : List Nat) (f0 : List Nat), k = k0 → sz = i.size → es = xs ++ ys → fs = f1 ++ (fk ++ f2) →
                  (∃ h1 : Heap, h1 = (hkill st.heap k0) ∧ hfree h1 φ base ∧ HRel w (Sof S0 fs) φ h1 φ (f1 ++ f2)) → RelL w (Sof S0 fs) φ xs.flatten vs f0 → (∀ b ∈ f0, b ∈ fk) → f0.Nodup →
                  (xs.length + ys.length ≤ c → 0 < c → ∃ v w' φ' fs', (Builtin.append_ #[t, t] o.type #[.slice ad xs.length c, .slice ax ys.length cx]).run P w = .ok v w' ∧ SRel S0 { st with heap := hput (hkill st.heap k0) base (i.size, xs ++ ys) } a w' φ' fs' ∧ Fr (fun g => g ∈ fs) w w' ∧
                    (∀ b, b ∈ fs' → b ∈ fs ∨ w.heap.size ≤ b) ∧ Ext φ φ' ∧ Rel w' (Sof S0 fs') φ' (.sl base 0 (xs ++ ys).length) v []) →
                  ∃ v w' φ' fs', ((Builtin.append_ #[t, t] o.type #[.slice ad xs.length c, .slice ax ys.length cx]).run P w).andThen (fun a w' => .ok (Next.value a) w') = .ok (.value v) w' ∧ SRel S0 { st with heap := hput (hkill st.heap k) base (sz, es) } a w' φ' fs' ∧ Fr (fun g => g ∈ fs) w w' ∧
                    (∀ b, b ∈ fs' → b ∈ fs ∨ w.heap.size ≤ b) ∧ Ext φ φ' ∧ Rel w' (Sof S0 fs') φ' (.sl base 0 es.length) v [] := by
                rintro k0 f1 fk f2 f0 rfl rfl rfl hsplit hkk hrx0 hf0 hn0 hroom
                have wrap : (∃ v w' φ' fs', (Builtin.append_ #[t, t] o.type #[.slice ad xs.length c, .slice ax ys.length cx]).run P w = .ok v w' ∧ SRel S0 { st with heap := hput (hkill st.heap k) base (i.size, xs ++ ys) } a w' φ' fs' ∧ Fr (fun g => g ∈ fs) w w' ∧
                    (∀ b, b ∈ fs' → b ∈ fs ∨ w.heap.size ≤ b) ∧ Ext φ φ' ∧ Rel w' (Sof S0 fs') φ' (.sl base 0 (xs ++ ys).length) v []) → ∃ v w' φ' fs', ((Builtin.append_ #[t, t] o.type #[.slice ad xs.length c, .slice ax ys.length cx]).run P w).andThen (fun a w' => .ok (Next.value a) w') = .ok (.value v) w' ∧ SRel S0 { st with heap := hput (hkill st.heap k) base (i.size, xs ++ ys) } a w' φ' fs' ∧ Fr (fun g => g ∈ fs) w w' ∧
                    (∀ b, b ∈ fs' → b ∈ fs ∨ w.heap.size ≤ b) ∧ Ext φ φ' ∧ Rel w' (Sof S0 fs') φ' (.sl base 0 (xs ++ ys).length) v [] := by
                  rintro ⟨v, w', φ', fs', r1, r2, r3, r4, r5, r6⟩
                  exact ⟨v, w', φ', fs', by rw [r1]; rfl, r2, r3, r4, r5, r6⟩
                apply wrap
                by_cases hr : xs.length + ys.length ≤ c
                · by_cases hc0 : 0 < c
                  · exact hroom hr hc0
                  · obtain rfl : c = 0 := by omega
                    have ex : xs = [] := List.eq_nil_of_length_eq_zero (by omega)
                    have ey : ys = [] := List.eq_nil_of_length_eq_zero (by omega)
                    subst ex ey
                    have eus : us = [] := List.eq_nil_of_length_eq_zero (by rw [← hul]; simp)
                    have ear := app_room (P := P) (w := w) t o.type e inf hu2 q2 ad 0 0 0 cx ax us (hfy w rfl) (by simp)
                    obtain ⟨fs', φ', g1, g2, g3, g4, g5⟩ := app_none h (k := k) hsplit hf hkk i.size ad
                    refine ⟨.slice ad 0 0, w, φ', fs', ?_, g1, g2, g3, g4, g5⟩
                    rw [show ([] : List (List A)).length = 0 from rfl, ear]
                    cases ad with
                    | none => rfl
                    | some b => rw [eus]; rfl
                · have hgr := app_grow (P := P) (w := w) t o.type e inf z hu2 q2 q6 ad xs.length c ys.length cx ax vs us (hfx w.drew rfl) (hfy w.drew rfl) (by omega) (by omega) (nextcap_le (by omega) (by rw [q5]; omega))
                  obtain ⟨fs', φ', g1, g2, g3, g4, g5⟩ := app_fresh h (k := k) hsplit hf hkk (hT _ _ hi) hux huy hrx0 hry hf0 hn0 (grownCap_ge w (xs.length + ys.length) c e) z.cells hzs e
                  exact ⟨_, _, φ', fs', hgr, g1, g2, g3, g4, g5⟩
              split at hv
              · rename_i hs
                simp only [Option.some.injEq, Prod.mk.injEq] at hv
                obtain ⟨⟨rfl, rfl⟩, rfl⟩ := hv
                have hnil := ev_rel h s
                rw [hs, ev1] at hnil
                rw [hs] at hxs
                simp only [srcOf, Option.some.injEq] at hxs
                subst hxs
                have hvnil : vs = [] := List.eq_nil_of_length_eq_zero (by rw [← hvl]; simp)
                subst hvnil
                refine main none fs [] [] [] rfl rfl rfl (by simp) ⟨st.heap, rfl, hf, by simpa using h.heap⟩ .nil (by simp) (by simp) ?_
                intro _ hc0
                cases hnil
                omega
              · rename_i m lo len hs
                simp only [Option.some.injEq, Prod.mk.injEq] at hv
                obtain ⟨⟨rfl, rfl⟩, rfl⟩ := hv
                have hsl := ev_rel h s
                rw [hs, ev1] at hsl
                rw [hs] at hxs
                simp only [srcOf] at hxs
                split at hxs
                · rename_i hcond
                  injection hxs with hxs
                  obtain ⟨hb, hle⟩ := hcond
                  cases hsl with
                  | sl hm hlo hlen had =>
                    rename_i l
                    unfold bsz at hb
                    unfold bes at hxs hle
                    split at hb
                    · rename_i b hbm
                      obtain ⟨bz, bs⟩ := b
                      injection hb with hb
                      simp only [hbm] at hxs hle
                      simp only at hb
                      obtain ⟨lo0, f1, fk, f2, p1, p2, p3, p4⟩ := h.heap.at_ hbm
                      rw [hm] at p1
                      injection p1 with p1
                      subst p1
                      obtain ⟨hlz, p2⟩ := p2
                      have hml : m < st.heap.length := (List.getElem?_eq_some_iff.1 hbm).1
                      have H1 : HRel w (Sof S0 fs) φ (st.heap.set m none) φ (f1 ++ f2) := by
                        have := p4 w (Sof S0 fs) (fun _ => False) φ none [] (Fr.refl _ w) (fun b hb => .inl hb) (fun _ h => h.elim) (Ext.refl φ) (fun _ _ h => h) (fun _ _ h => h) rfl
                        simpa using this
                      have hf1 : hfree (st.heap.set m none) φ base := by
                        rcases hf with e | ⟨e1, e2, e3⟩
                        · exact .inl (by simpa using e)
                        · refine .inr ⟨by simpa using e1, ?_, e3⟩
                          rw [List.getElem?_set_ne]
                          · exact e2
                          · rintro rfl; rw [hm] at e3; cases e3
                      rcases p2 with p2 | ⟨arr, ty, bv, b0, rfl, r1, r2, r3, r4, r5, r6⟩
                      · have hbs : bs = [] := p2.2.1
                        subst hbs
                        have ex : xs = [] := by rw [← hxs]; simp
                        subst ex
                        have hvnil : vs = [] := List.eq_nil_of_length_eq_zero (by rw [← hvl]; simp)
                        subst hvnil
                        refine main (some m) f1 fk f2 [] rfl rfl rfl p3 ⟨_, rfl, hf1, H1⟩ .nil (by simp) (by simp) ?_
                        intro _ hc0
                        have := p2.1
                        omega
                      · rw [hb] at r3 r2
                        obtain ⟨g1, g2, g3, e1, _, w2, _⟩ := r4.window (lo * i.size) (xs.length * i.size)
                        have hfl : (bs.flatten.drop (lo * i.size)).take (xs.length * i.size) = xs.flatten := by rw [flat_drop r3, flat_take (uni_drop r3 lo), hxs]
                        rw [hfl] at w2
                        have hnd := h.nodup
                        rw [p3] at hnd
                        have hnd3 := List.nodup_cons.1 (List.nodup_append.1 (List.nodup_append.1 hnd).2.1).1
                        have hg2 : g2.Sublist b0 := by rw [e1]; exact (List.sublist_append_left g2 g3).trans (List.sublist_append_right g1 _)
                        have hcellw : ∀ (k : Nat) (v : Value), ((bv.drop (lo * i.size)).take (xs.length * i.size))[k]? = some v → arr[l.off + lo * i.size + k]? = some v := by
                          intro k v hk
                          have hk2 : bv[lo * i.size + k]? = some v := by
                            by_cases hlt : k < xs.length * i.size
                            · rwa [List.getElem?_take_of_lt hlt, List.getElem?_drop] at hk
                            · rw [List.getElem?_eq_none (by simp; omega)] at hk; cases hk
                          rw [Nat.add_assoc]
                          exact r5 _ _ hk2
                        have hvsw : xs ≠ [] ∨ 0 < c → vs = (bv.drop (lo * i.size)).take (xs.length * i.size) := by
                          intro hne
                          have hlw := w2.length
                          rw [flat_len hux] at hlw
                          apply List.ext_getElem?
                          intro k
                          by_cases hk : k < vs.length
                          · have hcpos : 0 < c := by
                              rcases hne with h | h
                              · have := List.length_pos_iff.2 h; omega
                              · exact h
                            have h1 := hcx _ (had hcpos) k (vs[k]) (by simp [hk])
                            obtain ⟨v2, hv2⟩ : ∃ v2, ((bv.drop (lo * i.size)).take (xs.length * i.size))[k]? = some v2 := ⟨_, List.getElem?_eq_getElem (by omega)⟩
                            have h2 := hcellw k v2 hv2
                            rw [add_mk, hlz, hb] at h1
                            simp only [World.cell?, r1] at h1
                            have : some vs[k] = some v2 := by rw [← h1, ← h2]; simp
                            rw [hv2, ← this]
                            simp [hk]
                          · rw [List.getElem?_eq_none (by omega), List.getElem?_eq_none (by omega)]
                        by_cases hxe : xs = [] ∧ c = 0
                        · obtain ⟨ex, rfl⟩ := hxe
                          subst ex
                          have hvnil : vs = [] := List.eq_nil_of_length_eq_zero (by rw [← hvl]; simp)
                          subst hvnil
                          exact main (some m) f1 (l.g :: b0) f2 [] rfl rfl rfl p3 ⟨_, rfl, hf1, H1⟩ .nil (by simp) (by simp) (fun _ h => absurd h (by omega))
                        · have hvs := hvsw (by by_cases hx0 : xs = []; (right; have : c ≠ 0 := fun hc => hxe ⟨hx0, hc⟩; omega); exact .inl hx0)
                          subst hvs
                          refine main (some m) f1 (l.g :: b0) f2 g2 rfl rfl rfl p3 ⟨_, rfl, hf1, H1⟩ w2 (fun b hb => by simp [hg2.subset hb]) (hg2.nodup hnd3.2) ?_
                          intro hroom hc0
                          have had' := had hc0
                          have ear := app_room (P := P) (w := w) t o.type e inf hu2 q2 ad xs.length c ys.length cx ax us (hfy w rfl) hroom
                          obtain ⟨fs', φ', k1, k2, k3, k4, k5⟩ := app_room_sl h p3 hf ⟨_, rfl, hf1, H1⟩ r1 (hlz.trans hb) r2 hux huy w2 hry hg2 hlo hroom hcellw
                          refine ⟨_, _, φ', fs', ?_, k1, k2, k3, k4, k5⟩
                          rw [ear, had', hlz, hb, q4]
                          simp only
                          rw [add_mk]
                          have hlen2 : us.length = ys.length * i.size := hul.symm
                          have hmul : (xs.length + ys.length) * i.size ≤ c * i.size := Nat.mul_le_mul_right _ hroom
                          rw [Nat.add_mul] at hmul
                          have hcapm : l.cap * i.size = lo * i.size + c * i.size := by rw [← hlo, Nat.add_mul]
                          have hst := run_storeCells_at (P := P) l.g (l.off + lo * i.size + xs.length * i.size) ty us 0 arr w r1 (by omega) hone
                          simp only [Nat.add_zero] at hst
                          rw [hst]
                          simp only [Result.andThen_ok, Nat.add_assoc]
                    · cases hb
                · cases hxs
              · cases hv
            · cases hv
          · cases hv
        · cases hv
      · cases hv
    · cases hv
end
end Go.Proofs.Ytpdhoimpbiehkaa.Ab
