/- Regions whose order the tape draws: the whole region. -/
import Derived.Test.YtikebbklkiodlaaDoorAbAH
set_option linter.unusedSectionVars false
set_option linter.unusedSimpArgs false
set_option linter.unusedVariables false
namespace Go.Ab
variable [Marks]
variable {S S' : Nat → Nat → Prop} {w w' w1 : World} {μ μ' : Nat → Nat → Option (Nat × Nat)} {P : Program} {G : Globs} {σ σ' : Heap}

theorem get_dropE {ρ : Env} {l : List Nat} {t : Nat} {v : AV} (h : (dropE ρ l).get t = some v) : t ∉ l ∧ ρ.get t = some v := by
  induction ρ with
  | nil => simp [dropE, Env.get] at h
  | cons x r ih =>
    obtain ⟨k, u⟩ := x
    simp only [dropE] at h
    rw [Env.get_cons]
    split at h
    · rename_i hc
      obtain ⟨h1, h2⟩ := ih h
      refine ⟨h1, ?_⟩
      rw [if_neg]
      · exact h2
      · rintro rfl
        exact h1 (by simpa using hc)
    · rename_i hc
      rw [Env.get_cons] at h
      split at h
      · rename_i hk
        subst hk
        exact ⟨by simpa using hc, by simpa using h⟩
      · rename_i hk
        obtain ⟨h1, h2⟩ := ih h
        exact ⟨h1, by rw [if_neg hk]; exact h2⟩
theorem mem_dsts {aos : List AOper} {k d : Nat} {ao : AOper} (h : aos[k]? = some ao) (hd : ao.dst = some d) : d ∈ dsts aos := by
  induction aos generalizing k with
  | nil => simp at h
  | cons x r ih =>
    cases k with
    | zero =>
      simp only [List.getElem?_cons_zero, Option.some.injEq] at h
      subst h
      simp [dsts, hd]
    | succ k =>
      have := ih (by simpa using h)
      simp only [dsts]
      split
      · exact List.mem_cons_of_mem _ this
      · exact this

theorem good_drawn (hg : Good μ S w σ) : Good μ S { w with drawn := w.drawn + 1 } σ := by
  have hrep : ∀ {v : AV} {c : Value}, Rep S w μ v c → Rep S { w with drawn := w.drawn + 1 } μ v c := fun h => Rep.mono (S := S) (S' := S) (w := w) (w' := { w with drawn := w.drawn + 1 }) (μ := μ) (μ' := μ) (fun b o hs => ⟨hs, rfl⟩) (fun _ _ _ h => h) h
  refine ⟨fun id o ho => ?_, hg.inj, hg.old, hg.sb⟩
  have := hg.obj id o ho
  cases o with
  | arr c ver wm ty =>
    obtain ⟨b, n, h1, vs, e, lo, hi, h2, h3, h4, h5, h6, h7⟩ := this
    exact ⟨b, n, h1, vs, e, lo, hi, h2, h3, h4, fun j v hv => let ⟨cv, q1, q2, q3⟩ := h5 j v hv; ⟨cv, q1, q2, hrep q3⟩, h6, h7⟩
  | iter s pos => exact this
  | loop k ts c st =>
    obtain ⟨b, n, rec, h1, h2, h3, h4, h5⟩ := this
    exact ⟨b, n, rec, h1, h2, h3, h4, fun j t v ht hj => hrep (h5 j t v ht hj)⟩
  | mark => exact this
  | none => trivial

theorem draw_sound {r : Option Nat} {n : Nat} {N : Nat} {C : Oracle} (hC : OracleOK P G C) {ops : Array Oper} {aos : List AOper} (hcs : COpersI P G N ops aos) (hcalm : r = none ∨ aos.all AOper.calm = true)
    (hmix : (P.follows .mixedOrders || !Region.departs ops) = true) (hdr : drawOK (ancsOf ops.toList []) ops.toList aos = true)
    {st st' : St} {ex : AExit} (h : drawExec C ops.size (ancsOf ops.toList []) aos st = some (ex, st')) {id : Nat} {a : Act} (hst : StOK G N μ S w st a) :
    (Code.region id ops true).wpIn (FR r) n P (Post G N μ S w st.heap ex st') a w := by
  refine wpIn_region_draw fun t => ?_
  have hsch : Region.schedule (P.follows .mixedOrders) ops t = Region.linearise .any ops t := by
    unfold Region.schedule
    rw [if_pos hmix]
  rw [hsch]
  refine wpAnyIn_sound ops.size t (Array.replicate ops.size false) a _ ?_
  obtain ⟨hlen, hops⟩ := (show _ ∧ _ from hcs)
  have hlen : aos.length = ops.size := by rw [hlen]; simp
  have hok := drawOK_spec hdr
  have hoi : ∀ (k : Nat) o, ops.toList[k]? = some o ↔ ops[k]? = some o := fun k o => by rw [Array.getElem?_toList]
  -- the run in the order of the text
  have key : ∃ (s : Tr) (f : Nat → St) (m : Nat), m ≤ aos.length ∧ f 0 = st ∧ (∀ k o, aos[k]? = some o → k < m → Fact C s.rds s.wrs k o (f k) (f (k + 1))) ∧ okRW (ancsOf ops.toList []) aos s = true ∧
      ((m = aos.length ∧ ex = .normal ∧ st' = f m) ∨
       (∃ v ao st1, aos[m]? = some ao ∧ wantedA ao.guard (keepE (f m).env (readsOf ao)) = some true ∧ isE ao.op = true ∧ runOps C [ao] { f m with env := keepE (f m).env (readsOf ao) } = some (.pan v, st1) ∧
        ex = .pan v ∧ st' = { st1 with env := dropE st.env (dsts aos) } ∧ ∀ k, m < k → k < ops.size → bef (ancsOf ops.toList []) m k = true)) := by
    unfold drawExec at h
    split at h
    · rename_i s hr
      split at h
      · rename_i hrw
        simp only [Option.some.injEq, Prod.mk.injEq] at h
        obtain ⟨rfl, rfl⟩ := h
        obtain ⟨_, _, f, k, h1, h2, h3, h4⟩ := drawRun_trace _ _ _ _ _ hr
        rcases h4 with ⟨_, rfl, h5⟩ | ⟨v, o, h5, _⟩
        · refine ⟨s, f, aos.length, Nat.le_refl _, h1, fun k o hk hlt => ?_, hrw, .inl ⟨rfl, rfl, by rw [h5, Nat.zero_add]⟩⟩
          have := h3 k o hk hlt
          rwa [Nat.zero_add] at this
        · cases h5
      · cases h
    · rename_i p v s hr
      split at h
      · rename_i hrw
        simp only [Bool.and_eq_true] at hrw
        simp only [Option.some.injEq, Prod.mk.injEq] at h
        obtain ⟨rfl, rfl⟩ := h
        obtain ⟨_, _, f, k, h1, h2, h3, h4⟩ := drawRun_trace _ _ _ _ _ hr
        rcases h4 with ⟨h5, _⟩ | ⟨v', o, h5, h6, h7, h8, h9⟩
        · cases h5
        · simp only [Nat.zero_add, Option.some.injEq, Prod.mk.injEq] at h5 h7 h9
          obtain ⟨rfl, rfl⟩ := h5
          refine ⟨s, f, p, h2, h1, fun k o hk hlt => ?_, hrw.1, .inr ⟨v, o, s.st, h6, h7, h8, h9, rfl, rfl, fun k hk hkn => ?_⟩⟩
          · have := h3 k o hk hlt
            rwa [Nat.zero_add] at this
          · have := hrw.2
            simp only [lateOK, List.all_eq_true, List.mem_range, Bool.or_eq_true, decide_eq_true_eq] at this
            rcases this k hkn with h | h
            · omega
            · exact h
      · cases h
    · cases h
  clear h
  obtain ⟨s, f, m, hm, hf0, hf, hrw, hend⟩ := key
  -- what is before what
  have hbd := @bef_done _ ops.toList aos hok
  have hlt : ∀ (j k : Nat) (ak : AOper), aos[k]? = some ak → bef (ancsOf ops.toList []) j k = true → j < k := by
    intro j k ak hk hb
    obtain ⟨o, ho, hd⟩ := hok.has k ak hk
    refine hbd (D := fun x => x < k) (fun x o' hx ho' y hy => ?_) k ak o hk ho (fun j hj => hd j hj) j hb
    have hxl : x < aos.length := Nat.lt_trans hx (List.getElem?_eq_some_iff.1 hk).1
    obtain ⟨o2, ho2, hd2⟩ := hok.has x aos[x] (by simp [hxl])
    rw [ho'] at ho2
    obtain rfl := Option.some.inj ho2
    exact Nat.lt_trans (hd2 y hy) hx
  -- when all is done
  have fin : ∀ (D : Nat → Prop) (a1 : Act) (w2 : World), (∀ k, k < aos.length → D k) → (∀ k, D k → k < m) → DInv G N (ancsOf ops.toList []) aos f m μ S w D a1 w2 → Post G N μ S w st.heap ex st' .normal a1 w2 := by
    intro D a1 w2 hall hDm ⟨q, hqm, μ1, S1, pd, hinv⟩
    rcases hend with ⟨hmn, rfl, rfl⟩ | ⟨v, ao, st1, hao, _⟩
    · obtain ⟨μ2, hinv2⟩ := absorb hf hm (m - q) q μ1 (by omega) (fun k ak hk _ _ _ => hall k (List.getElem?_eq_some_iff.1 hk).1) hinv
      rw [show q + (m - q) = m from by omega] at hinv2
      obtain ⟨_, _, hg, hG, hsz, hdef, hfr, h1, h2, _, _⟩ := hinv2
      refine ⟨μ2, S1, trivial, ⟨?_, hG, hg, hsz, hdef⟩, by rw [← hf0]; exact hfr⟩
      intro t v hv
      by_cases hk : ∃ (k : Nat) (ak : AOper), aos[k]? = some ak ∧ ak.dst = some t
      · obtain ⟨k, ak, hak, hd⟩ := hk
        have hkl : k < aos.length := (List.getElem?_eq_some_iff.1 hak).1
        refine h2 k ak t v (hall k hkl) hak (.inl (by omega)) hd ?_
        have e := trace_env hf hm (t := t) (m - (k + 1)) (k + 1) (by omega) (fun k' o hk1 hk2 ho hd' => hok.dst k' k o ak t (by omega) ho hak hd hd')
        rw [show k + 1 + (m - (k + 1)) = m from by omega] at e
        rw [← e]; exact hv
      · refine h1 t v (fun k ak _ hak hd => hk ⟨k, ak, hak, hd⟩) ?_
        have e := trace_env hf hm (t := t) m 0 (by omega) (fun k o _ _ ho hd => hk ⟨k, o, ho, hd⟩)
        rw [Nat.zero_add] at e
        rw [← e]; exact hv
    · have hml : m < aos.length := (List.getElem?_eq_some_iff.1 hao).1
      have := hDm m (hall m hml)
      omega
  -- the rest by the number of operations left
  have main : ∀ (fuel : Nat) (listed : Array Bool) (a1 : Act) (w2 : World), listed.size = ops.size → (∀ (k : Nat) (o : Oper), listed.getD k false = true → ops.toList[k]? = some o → ∀ j ∈ direct o, listed.getD j false = true) →
      (∀ (k : Nat), listed.getD k false = true → k < m) → DInv G N (ancsOf ops.toList []) aos f m μ S w (fun k => listed.getD k false = true) a1 w2 →
      ((List.range ops.size).filter fun k => !listed.getD k false).length ≤ fuel → wpAnyIn (FR r) n P .any ops (Post G N μ S w st.heap ex st') fuel listed a1 w2 := by
    intro fuel
    induction fuel with
    | zero =>
      intro listed a1 w2 hsz hcl hDm hinv hcount
      have hall : ∀ k, k < ops.size → listed.getD k false = true := by
        intro k hk
        have h0 : (List.range ops.size).filter (fun k => !listed.getD k false) = [] := by
          apply List.eq_nil_of_length_eq_zero; omega
        rw [List.filter_eq_nil_iff] at h0
        have := h0 k (List.mem_range.2 hk)
        simpa using this
      refine ⟨?_, fin _ a1 w2 (fun k hk => hall k (by omega)) hDm hinv⟩
      cases hr : Region.ready .any ops listed with
      | nil => rfl
      | cons x xs =>
        have hx : x ∈ Region.ready .any ops listed := by rw [hr]; exact List.mem_cons_self ..
        rw [mem_ready] at hx
        obtain ⟨h0, o, ho, _⟩ := hx
        have hxl : x < ops.size := (Array.getElem?_eq_some_iff.1 ho).1
        have := hall x hxl
        have hxs : x < listed.size := by omega
        simp [hxs] at h0 this
        rw [h0] at this; cases this
    | succ fuel ih =>
      intro listed a1 w2 hsz hcl hDm hinv hcount
      constructor
      · intro hr
        refine fin _ a1 w2 (fun k hk => ?_) hDm hinv
        induction k using Nat.strongRecOn with
        | _ k ihk =>
          obtain ⟨o, ho, hd⟩ := hok.has k aos[k] (by simp [hk])
          cases hlk : listed.getD k false with
          | true => rfl
          | false =>
            have hks : k < listed.size := by omega
            have : k ∈ Region.ready .any ops listed := by
              rw [mem_ready]
              refine ⟨by simp [hks] at hlk ⊢; exact hlk, o, (hoi k o).1 ho, fun e he hb => ?_⟩
              have hmem : e.on ∈ direct o := by
                unfold direct
                refine List.mem_map.2 ⟨e, List.mem_filter.2 ⟨by simpa using he, hb⟩, rfl⟩
              exact ihk e.on (hd _ hmem) (Nat.lt_trans (hd _ hmem) hk)
            rw [hr] at this
            cases this
      · intro i hi
        rw [mem_ready] at hi
        obtain ⟨h0, o, ho, haft⟩ := hi
        have hio : i < ops.size := (Array.getElem?_eq_some_iff.1 ho).1
        have his : i < listed.size := by omega
        have hil : i < aos.length := by omega
        have hDi : ¬ listed.getD i false = true := by simp [his] at h0 ⊢; exact h0
        have hai : aos[i]? = some aos[i] := by simp [hil]
        have hdir : ∀ j ∈ direct o, listed.getD j false = true := by
          intro j hj
          unfold direct at hj
          obtain ⟨e, he, rfl⟩ := List.mem_map.1 hj
          obtain ⟨he1, he2⟩ := List.mem_filter.1 he
          exact haft e (by simpa using he1) he2
        have hbef : ∀ j, bef (ancsOf ops.toList []) j i = true → listed.getD j false = true := hbd (D := fun k => listed.getD k false = true) hcl i aos[i] o hai ((hoi i o).2 ho) hdir
        have hbefD : ∀ (k j : Nat), listed.getD k false = true → bef (ancsOf ops.toList []) j k = true → listed.getD j false = true := by
          intro k j hk hb
          have hkl : k < aos.length := Nat.lt_of_lt_of_le (hDm k hk) hm
          obtain ⟨ok, hok', _⟩ := hok.has k aos[k] (by simp [hkl])
          exact hbd (D := fun k => listed.getD k false = true) hcl k aos[k] ok (by simp [hkl]) hok' (hcl k ok hk hok') j hb
        rcases Nat.lt_or_ge i m with him | him
        · refine step_draw hcalm hC hcs hf hm hok (fun i id j len wr h1 h2 => okRW_spec hrw h1 h2) hai him (D := fun k => listed.getD k false = true) hDi hbef hbefD hlt hinv ?_
          intro a' w' hinv'
          have hset : ∀ k, (listed.setIfInBounds i true).getD k false = true ↔ (listed.getD k false = true ∨ k = i) := by
            intro k
            by_cases hki : k = i
            · subst hki; simp [his]
            · rw [getD_set_ne false (Ne.symm hki)]; simp [hki]
          refine ih (listed.setIfInBounds i true) a' w' (by simpa using hsz) ?_ ?_ ?_ ?_
          · intro k ok hk hok' j hj
            rw [hset] at hk ⊢
            rcases hk with hk | rfl
            · exact .inl (hcl k ok hk hok' j hj)
            · rw [hoi] at hok'
              rw [ho] at hok'
              obtain rfl := Option.some.inj hok'
              exact .inl (hdir j hj)
          · intro k hk
            rw [hset] at hk
            rcases hk with hk | rfl
            · exact hDm k hk
            · exact him
          · have : (fun k => (listed.setIfInBounds i true).getD k false = true) = fun k => (listed.getD k false = true ∨ k = i) := funext fun k => propext (hset k)
            rw [this]; exact hinv'
          · have hlt' : ((List.range ops.size).filter fun k => !(listed.setIfInBounds i true).getD k false).length < ((List.range ops.size).filter fun k => !listed.getD k false).length := by
              have hsub : ((List.range ops.size).filter fun k => !(listed.setIfInBounds i true).getD k false) = ((List.range ops.size).filter fun k => !listed.getD k false).filter fun k => !(k == i) := by
                rw [List.filter_filter]
                refine List.filter_congr fun k _ => ?_
                by_cases hki : k = i
                · subst hki; simp [his]
                · rw [getD_set_ne false (Ne.symm hki)]; simp [hki]
              rw [hsub]
              refine List.length_filter_lt_length_iff_exists.2 ⟨i, List.mem_filter.2 ⟨List.mem_range.2 hio, by simpa using hDi⟩, by simp⟩
            omega
        · rcases hend with ⟨hmn, _⟩ | ⟨v, ao, st1, hao, hw, hE, hr, rfl, rfl, hlate⟩
          · omega
          · by_cases hmi : i = m
            · subst hmi
              obtain ⟨q, hqm, μ0, S1, pd, hinv⟩ := hinv
              obtain ⟨o', ho', hco⟩ := hcs.2 i o ((hoi i o).2 ho)
              rw [hao] at ho'
              obtain rfl := Option.some.inj ho'
              have hco := hco.E hE
              have hfi : isFree (ancsOf ops.toList []) aos i = false := by
                cases hfi : isFree (ancsOf ops.toList []) aos i with
                | false => rfl
                | true =>
                  exfalso
                  obtain ⟨ak, _, z, t, hak, hop, hgd, hdst'⟩ := free_spec hfi
                  rw [hao] at hak
                  obtain rfl := Option.some.inj hak
                  obtain ⟨dst, op, guard⟩ := ao
                  simp only at hop hgd
                  subst hop hgd
                  simp [runOps, wantedA, stepOp, pureOp, allocOp] at hr
              obtain ⟨μ1, hinv⟩ := absorb hf hm (i - q) q μ0 (by omega) (fun k ak hk hEk _ hlt2 => by
                have := hok.ee i k ao ak (by omega) hao hk hE hEk
                rw [if_pos (by omega), hfi] at this
                exact hbef k (this.resolve_right (by simp))) hinv
              rw [show q + (i - q) = i from by omega] at hinv
              obtain ⟨hq1, hq2, hg, hG, hsz1, hdef, hfr, h1, h2, _, _⟩ := hinv
              have henv := env_at (w := w2) hf hm hok hao (Nat.le_refl _) (D := fun k => listed.getD k false = true) hDi hbef hbefD hq2 (fun _ => rfl) h1 h2
              have hst1 : StOK G N μ1 S1 w2 { f i with env := keepE (f i).env (readsOf ao) } a1 := ⟨henv, hG, hg, hsz1, hdef⟩
              have hrun := runOps_sound (r := r) (n := n) hC [i] [ao] (hcalm.imp_right fun h => by simp [List.all_eq_true.1 h _ (List.mem_of_getElem? hao)]) (fun k j hk => by
                cases k with
                | zero => simp at hk; subst hk; exact ⟨o, ao, ho, rfl, hco⟩
                | succ k => simp at hk) rfl _ _ _ hr a1 w2 μ1 S1 hst1
              rw [wpOpsIn_cons] at hrun
              refine wpOpIn_more ho ?_ ?_ hrun
              · intro a' w' hp _
                obtain ⟨μ2, S2, hex, _⟩ := hp
                exact hex.elim
              · intro e a' w' hne hp hae
                obtain ⟨μ2, S2, hex, hst2, hfr2⟩ := hp
                have haa : a' = a1 := by
                  rcases hae with h | rfl
                  · exact h
                  · exact hex.elim
                subst haa
                simp only at hfr2
                refine ⟨μ2, S2, hex, ⟨?_, hst2.glob, hst2.good, hst2.size, hst2.defers⟩, ?_⟩
                · intro t u hu
                  obtain ⟨hnot, hu⟩ := get_dropE hu
                  refine (h1 t u (fun k ak _ hak hd => hnot (mem_dsts hak hd)) (by rw [hf0]; exact hu)).mono hfr2.keepS hfr2.mu
                · rw [← hf0]; exact hfr.trans hfr2
            · have := hlate i (by omega) hio
              have := hDm m (hbef m this)
              omega
  refine main ops.size _ a _ (by simp) ?_ ?_ ?_ ?_
  · intro k o hk
    simp [Array.getElem?_replicate] at hk
    split at hk <;> simp at hk
  · intro k hk
    simp [Array.getElem?_replicate] at hk
    split at hk <;> simp at hk
  · have hfr : Frm μ S w (f 0).heap μ S { w with drawn := w.drawn + 1 } (f 0).heap := ⟨rfl, rfl, rfl, Nat.le_refl _, fun b o h => ⟨h, rfl⟩, fun _ _ _ => rfl, fun _ _ h => .inl h, fun _ h => .inl h, fun _ _ _ h => h⟩
    have hst2 := hst.step (good_drawn hst.good) (by rw [← hf0]; exact hfr)
    have nol : ∀ k, ¬ (Array.replicate ops.size false).getD k false = true := by
      intro k hk
      simp [Array.getElem?_replicate] at hk
      split at hk <;> simp at hk
    refine ⟨0, Nat.zero_le _, μ, S, fun _ => 0, fun k ak _ _ h => absurd h (Nat.not_lt_zero _), fun k ak _ _ h => absurd h (nol k), by rw [hf0]; exact hst2.good, hst2.glob, hst2.size, by rw [hf0]; exact hst2.defers, hfr, ?_, ?_, fun k ak hk => absurd hk (nol k), fun k k' ak ak' hk => absurd hk (nol k)⟩
    · intro t v _ hv
      exact hst2.env t v (by rw [hf0] at hv; exact hv)
    · intro k ak t v hk
      exact absurd hk (nol k)
  · refine Nat.le_trans (List.length_filter_le _ _) (by simp)

end Go.Ab
