/-
  The pure machine, part 5 of 5: a general law that such code as this program's keeps to descriptions in plain Lean. It speaks of no program.
-/
import Derived.Test.YtbaelbjgfakpoaaDoorTm4
import Derived.Test.YtbaelbjgfakpoaaDoorTm3
import Derived.Test.YtbaelbjgfakpoaaDoorTm2
import Derived.Tactics
import Derived.Sort.Grow
import Derived.Lib.ItoaNum
import Derived.Laws.BytesArg
import Derived.IntWalk
import Derived.ProofKit
import Derived.SizedLaws
import Derived.Lib.LaidTab
import Derived.Lib.IndexBytes

/- (TmLent6)
  Calls with data that is given away or lent: sound. All operations together.
-/
section
set_option linter.unusedSimpArgs false
set_option linter.unusedVariables false
namespace Go.Tm

section
variable {P : Program} {c : Cfg} {w0 : World} {mu : Lent} {Γ : Gam} {st : St} {tmps : Array Value} {w w' : World} {rv : RV} {key : Key} {o : Oper} {ok : Prop}

theorem LentA.lt {w : World} {ok : Nat → Prop} : ∀ {l : List LV} {ds : List DV} {fp : List Nat}, LentA w ok l ds fp → ∀ b ∈ fp, b < w.heap.size
  | [], ds, fp, h => by
    cases ds <;> simp only [LentA] at h
    subst h; simp
  | .box v t m :: l, ds, fp, h => by
    cases ds <;> simp only [LentA] at h
    obtain ⟨x, f1, f2, rfl, hb, hr, rfl⟩ := h
    intro b hb0
    exact (List.mem_append.1 hb0).elim (hb.lt b) (hr.lt b)
  | .dat v t :: l, ds, fp, h => by
    cases ds <;> simp only [LentA] at h
    obtain ⟨x, cells, f1, f2, rfl, hv, hb, hr, rfl⟩ := h
    intro b hb0
    exact (List.mem_append.1 hb0).elim (hb.lt b) (hr.lt b)

theorem mat_slots {E : Env} {st : St} (hE : ∀ m, E.ob m = look st.obs m) : ∀ {t : Ty} {rv : RV} {x : t.den} {vs : List Value}, CR E rv vs → st.mat t rv = some x → ∀ s ∈ rv.ids, ∃ e k xs, look st.obs s = some (.slot e k xs)
  | t, .v u y, x, vs, hc, hm, s, hs => by simp [RV.ids] at hs
  | t, .vw s' p u y, x, vs, hc, hm, s, hs => by
    simp only [RV.ids, List.mem_singleton] at hs; subst hs
    obtain ⟨e, k, xs, ho⟩ := hc.2.1
    exact ⟨e, k, xs, by rw [← hE]; exact ho⟩
  | t, .nl e', x, vs, hc, hm, s, hs => by simp [RV.ids] at hs
  | t, .rf s' e' n, x, vs, hc, hm, s, hs => by
    simp only [RV.ids, List.mem_singleton] at hs; subst hs
    obtain ⟨_, k, xs, ho, _⟩ := hc
    exact ⟨e', k, xs, by rw [← hE]; exact ho⟩
  | .pr a' b', .pr p q, x, vs, hc, hm, s, hs => by
    simp only [St.mat] at hm
    split at hm
    · rename_i y z hy hz
      obtain ⟨v1, v2, rfl, h1, h2⟩ := hc
      simp only [RV.ids, List.mem_append] at hs
      exact hs.elim (mat_slots hE h1 hy s) (mat_slots hE h2 hz s)
    · cases hm
  | t, .un, _, vs, hc, _, s, hs => by simp [RV.ids] at hs
  | .int _, .pr _ _, _, _, _, h, _, _ | .bool, .pr _ _, _, _, _, h, _, _ | .str, .pr _ _, _, _, _, h, _, _ | .un, .pr _ _, _, _, _, h, _, _ | .sl _, .pr _ _, _, _, _, h, _, _ => by simp [St.mat] at h
  | t, .bi _ _, _, _, _, h, _, _ => by cases t <;> simp [St.mat] at h
  | t, .ptr _ _, _, _, _, h, _, _ => by cases t <;> simp [St.mat] at h
  | t, .pv _ _, _, _, _, h, _, _ => by cases t <;> simp [St.mat] at h
  | t, .fn _ _, _, _, _, h, _, _ => by cases t <;> simp [St.mat] at h
  | t, .dd _, _, _, _, h, _, _ => by cases t <;> simp [St.mat] at h
  | t, .tp _, _, _, _, h, _, _ => by cases t <;> simp [St.mat] at h

theorem lbox_used {t : Ty} {m : Md} {o : Nat} {la : LA} (hq : st.lbox t m o = some la) : la.used = [] := by
  unfold St.lbox at hq
  split at hq
  case h_2 => cases hq
  rename_i t' c ho
  cases ht : decide (t' = t) with
  | false => rw [ht] at hq; cases hq
  | true =>
    rw [ht] at hq
    simp only [cond_true] at hq
    split at hq
    case h_2 => cases hq
    simp only [Option.some.injEq] at hq; subst hq; rfl

theorem lcaps_used : ∀ {cs : List (Ty × Md)} {os : List Nat} {la : LA}, st.lcaps cs os = some la → la.used = []
  | [], [], la, hq => by simp only [St.lcaps, Option.some.injEq] at hq; subst hq; rfl
  | (t, m) :: cs, o :: os, la, hq => by
    simp only [St.lcaps] at hq
    split at hq
    · rename_i x y hx hy
      simp only [Option.some.injEq] at hq; subst hq
      simp [LA.app, lbox_used hx, lcaps_used hy]
    · cases hq
  | [], _ :: _, la, hq => by simp [St.lcaps] at hq
  | _ :: _, [], la, hq => by simp [St.lcaps] at hq

theorem larg_used {p : PK} {rv : RV} {v : Value} {la : LA} (hv : VR (envOf w Γ st.obs) rv v) (hq : st.larg p rv = some la) : ∀ s ∈ la.used, ∃ e k xs, look st.obs s = some (.slot e k xs) := by
  intro s hs
  cases p with
  | sh t =>
    simp only [St.larg] at hq
    split at hq
    case h_2 => cases hq
    rename_i d hd
    simp only [Option.some.injEq] at hq; subst hq
    obtain ⟨hnd, hn, ha⟩ := mat_agg hd
    obtain ⟨vs, hc, hvs⟩ := hv.to1 hn
    simp only at hs
    cases hf : (t.flat || (rv.shr t).isSome) with
    | true => rw [hf] at hs; simp at hs
    | false => rw [hf] at hs; exact mat_slots (fun _ => rfl) hc hd s hs
  | mv t =>
    simp only [St.larg] at hq
    split at hq
    case h_2 => cases hq
    simp only [Option.some.injEq] at hq; subst hq; simp at hs
  | mu t =>
    simp only [St.larg] at hq
    split at hq
    case h_2 => cases hq
    simp only [Option.some.injEq] at hq; subst hq; simp at hs
  | bx t m =>
    cases rv <;> simp only [St.larg, reduceCtorEq] at hq
    rename_i o p
    cases p with
    | nil => rw [lbox_used hq] at hs; simp at hs
    | cons _ _ => cases hq
  | fn f caps =>
    cases rv <;> simp only [St.larg, reduceCtorEq] at hq
    rename_i f' os
    cases hf : Nat.beq f f' with
    | false => rw [hf] at hq; cases hq
    | true => rw [hf] at hq; simp only [cond_true] at hq; rw [lcaps_used hq] at hs; simp at hs

theorem largs_used : ∀ {ps : List PK} {rvs : List RV} {vs : List Value} {la : LA}, (List.length vs = rvs.length) → (∀ (i : Nat) rv v, rvs[i]? = some rv → vs[i]? = some v → VR (envOf w Γ st.obs) rv v) → st.largs ps rvs = some la →
    ∀ s ∈ la.used, ∃ e k xs, look st.obs s = some (.slot e k xs)
  | [], [], vs, la, hl, hv, hq => by simp only [St.largs, Option.some.injEq] at hq; subst hq; simp [LA.nil]
  | p :: ps, rv :: rvs, vs, la, hl, hv, hq => by
    simp only [St.largs] at hq
    split at hq
    · rename_i x y hx hy
      simp only [Option.some.injEq] at hq; subst hq
      cases vs with
      | nil => simp at hl
      | cons v vs =>
        intro s hs
        rcases List.mem_append.1 hs with hs | hs
        · exact larg_used (hv 0 rv v rfl rfl) hx s hs
        · exact largs_used (vs := vs) (by simpa using hl) (fun i rv v hi hj => hv (i + 1) rv v (by simpa using hi) (by simpa using hj)) hy s hs
    · cases hq
  | [], _ :: _, vs, la, _, _, hq => by simp [St.largs] at hq
  | _ :: _, [], vs, la, _, _, hq => by simp [St.largs] at hq

theorem largs_sh : ∀ {ps : List PK} {rvs : List RV} {la : LA}, ps.all PK.isSh = true → st.largs ps rvs = some la → la.gone ++ la.ids = []
  | [], [], la, _, hq => by simp only [St.largs, Option.some.injEq] at hq; subst hq; rfl
  | p :: ps, rv :: rvs, la, hs, hq => by
    simp only [List.all_cons, Bool.and_eq_true] at hs
    simp only [St.largs] at hq
    split at hq
    · rename_i x y hx hy
      simp only [Option.some.injEq] at hq; subst hq
      have h2 := largs_sh hs.2 hy
      rw [List.append_eq_nil_iff] at h2
      cases p with
      | sh t =>
        simp only [St.larg] at hx
        split at hx
        · simp only [Option.some.injEq] at hx; subst hx
          simp [LA.app, h2.1, h2.2]
        · cases hx
      | _ => exact absurd hs.1 (by simp [PK.isSh])
    · cases hq
  | [], _ :: _, la, _, hq => by simp [St.largs] at hq
  | _ :: _, [], la, _, hq => by simp [St.largs] at hq

theorem loud_call {a : Act} (hC : CfgOk P c w0 mu) (h : Inv w0 mu Γ st a.tmps w) (hk : ∀ q ∈ key, a.tmps.getD q.1 undef = .bool q.2) {g : Operand} {args : Array Operand} {ts : Array TypeId} {st' : St}
    (ho : o.op = .call { callee := .value g, args := args, argTypes := ts }) (hd : dstOk st [] o.dst = true) (hq : st.lcall c key o.dst g args.toList = some (st', ok)) (hok : ok)
    {K : Act → World → Prop} {Q : Exit → Act → World → Prop} (hK : ∀ Γ' a' w', Inv w0 mu Γ' st' a'.tmps w' → a'.defers = a.defers → (st.growLoud c key o = true → Ext w w') → K a' w') : o.wp P a w K Q := by
  unfold St.lcall at hq
  split at hq
  case h_2 => cases hq
  rename_i f os hf
  split at hq
  case h_2 => cases hq
  rename_i fs hfs
  split at hq
  case h_2 => cases hq
  rename_i rvs hrvs
  cases hlen : Nat.beq (args.toList.length + os.length) fs.ps.length with
  | false => rw [hlen] at hq; cases hq
  | true =>
    rw [hlen] at hq
    have hlen := Nat.eq_of_beq_eq_true hlen
    simp only [cond_true] at hq
    split at hq
    case h_2 => cases hq
    rename_i la hla
    cases hB : (nodupB (la.gone ++ la.ids) && la.used.all fun u => !(lany (la.gone ++ la.ids) u)) with
    | false => rw [hB] at hq; cases hq
    | true =>
      rw [hB] at hq
      simp only [cond_true, Bool.and_eq_true] at hB hq
      split at hq
      case h_2 => cases hq
      rename_i st2 hret
      simp only [Option.some.injEq, Prod.mk.injEq] at hq
      obtain ⟨rfl, rfl⟩ := hq
      obtain ⟨hsn, fn, hfn, hb, hn⟩ := hC.env _ _ hfs
      obtain ⟨vsg, ⟨hvs, hcap⟩, hv⟩ := (h.val hk hf).to1 (by simp)
      simp only [RV.agg, Bool.false_eq_true, if_false] at hv
      have hg : a.eval g = .func (.func f) #[] (os.map fun o => Value.pointer (some ⟨Γ.bx o, 0, none⟩)).toArray := by
        rw [hvs] at hv; exact (List.cons.inj hv).1.symm
      obtain ⟨hl1, hget⟩ := allSome_get hrvs
      have hzl : (fs.ps.zip args.toList).length = args.toList.length := by rw [List.length_zip]; omega
      let caps : List Value := os.map fun o => Value.pointer (some ⟨Γ.bx o, 0, none⟩)
      let vals : List Value := args.toList.map a.eval ++ caps
      have hvl : vals.length = (rvs ++ os.map fun o => RV.bi o []).length := by
        simp only [vals, caps, List.length_append, List.length_map, hl1, hzl]
      have hvr : ∀ (i : Nat) rv v, (rvs ++ os.map fun o => RV.bi o [])[i]? = some rv → vals[i]? = some v → VR (envOf w Γ st.obs) rv v := by
        intro i rv v hi hj
        by_cases hlt : i < args.toList.length
        · rw [List.getElem?_append_left (by rw [hl1, hzl]; exact hlt)] at hi
          simp only [vals] at hj
          rw [List.getElem?_append_left (by simpa using hlt), List.getElem?_map] at hj
          obtain ⟨x, hx, rfl⟩ := Option.map_eq_some_iff.1 hj
          have hp : i < fs.ps.length := by omega
          have hz : (fs.ps.zip args.toList)[i]? = some (fs.ps[i], x) := by
            rw [List.getElem?_zip_eq_some]
            exact ⟨List.getElem?_eq_getElem hp, hx⟩
          obtain ⟨b, hb1, hb2⟩ := hget i _ hz
          rw [hi] at hb1
          simp only [Option.some.injEq] at hb1; subst hb1
          exact h.val hk hb2
        · rw [List.getElem?_append_right (by rw [hl1, hzl]; omega), hl1, hzl, List.getElem?_map] at hi
          simp only [vals] at hj
          rw [List.getElem?_append_right (by simpa using hlt), List.length_map] at hj
          simp only [caps] at hj
          rw [List.getElem?_map] at hj
          obtain ⟨q, hq1, rfl⟩ := Option.map_eq_some_iff.1 hi
          rw [hq1] at hj
          simp only [Option.map_some, Option.some.injEq] at hj; subst hj
          obtain ⟨t, cc, ho2⟩ := hcap q (List.mem_of_getElem? hq1)
          exact ⟨_, ⟨t, cc, t, 0, ho2, by unfold Ty.offB; rfl, rfl⟩, by simp [RV.agg, envOf]⟩
      let okin : Nat → Prop := fun b => (envOf w Γ st.obs).ok b ∨ ∃ s ∈ la.used, b ∈ Γ.fp s
      obtain ⟨fp, hargs, hperm, hA, hM⟩ := largs_sound h (okin := okin) (fun b hb => .inl hb) hvl hvr hla (fun s hs b hb => .inr ⟨s, hs, hb⟩)
      have husd := largs_used hvl hvr hla
      have hnd := nodupB_spec hB.1
      have hfpo : ∀ b ∈ fp, ∃ s ∈ la.gone ++ la.ids, ∃ ob, look st.obs s = some ob ∧ b ∈ obFp Γ s ob := fun b hb => by
        rw [hperm.mem_iff] at hb
        obtain ⟨s, hs, hb⟩ := List.mem_flatMap.1 hb
        refine ⟨s, hs, ?_⟩
        unfold oldFp at hb
        cases hl : look st.obs s with
        | none => rw [hl] at hb; simp at hb
        | some ob => rw [hl] at hb; exact ⟨ob, rfl, hb⟩
      have hfpown : ∀ b ∈ fp, b ∈ owned Γ st.obs := fun b hb => by
        obtain ⟨s, _, ob, ho, hbo⟩ := hfpo b hb
        rw [owned_eq]; exact List.mem_append.2 (.inr (List.mem_flatMap.2 ⟨_, look_mem ho, hbo⟩))
      have hokin : ∀ b, okin b → b < w.heap.size ∧ b ∉ fp := fun b hb => by
        rcases hb with hb | ⟨s, hs, hb⟩
        · exact ⟨hb.1, fun hm => hb.2.1 (hfpown b hm)⟩
        · obtain ⟨e, k, xs, ho⟩ := husd s hs
          refine ⟨h.lt b (mem_owned_slot (look_mem ho) b hb), fun hm => ?_⟩
          obtain ⟨s2, hs2, ob2, ho2, hb2⟩ := hfpo b hm
          have hu := List.all_eq_true.1 hB.2 s hs
          have hne : s ≠ s2 := by
            rintro rfl
            rw [lany_iff.2 hs2] at hu; cases hu
          exact ob_disj h (look_mem ho) (look_mem ho2) hne b (by simpa [obFp] using hb) hb2
      have hfpnd : fp.Nodup := by
        refine hperm.symm.nodup ?_
        have key : ∀ (l : List Nat), l.Nodup → (l.flatMap (oldFp Γ st)).Nodup := by
          intro l
          induction l with
          | nil => intro _; simp
          | cons s l ih =>
            intro hn
            rw [List.nodup_cons] at hn
            simp only [List.flatMap_cons, List.nodup_append]
            have hnn := h.nodup
            rw [owned_eq, List.nodup_append] at hnn
            refine ⟨?_, ih hn.2, fun b hb y hy e => ?_⟩
            · unfold oldFp
              cases hl : look st.obs s with
              | none => simp
              | some ob => exact nodup_at (g := fun p => obFp Γ p.1 p.2) (p := (s, ob)) hnn.2.1 (look_mem hl)
            · subst e
              obtain ⟨m, hm, hbm⟩ := List.mem_flatMap.1 hy
              unfold oldFp at hb hbm
              cases hl : look st.obs s with
              | none => rw [hl] at hb; simp at hb
              | some ob =>
                cases hl2 : look st.obs m with
                | none => rw [hl2] at hbm; simp at hbm
                | some ob2 =>
                  rw [hl] at hb; rw [hl2] at hbm
                  exact ob_disj h (look_mem hl) (look_mem hl2) (by rintro rfl; exact hn.1 hm) b hb hbm
        exact key _ hnd
      have h1 := hsn w vals la.ds fp okin hokin (hC.gl h hfpown) hargs hfpnd (fun b hb => h.lt b (hfpown b hb)) hok
      have he : vals.toArray = args.map a.eval ++ caps.toArray := by apply Array.ext'; simp [vals]
      rw [he] at h1
      unfold Oper.wp
      rw [run_enter ho hg hfn hb hn w]
      simp only [Oper.upon]
      refine h1.mono fun e w' ⟨v, hv, haft⟩ => ?_
      subst hv
      obtain ⟨vs, fr, fl, rfl, hres, hlent, hndd, hnew⟩ := haft.ex
      have hlA := lentR_lent hlent
      obtain ⟨Γ', hI⟩ := lret_sound h hA hM hB.1 hperm (okin := okin) (fun b hb => hb) hres hlA hndd hnew (fun b hb => (List.mem_append.1 hb).elim (hres.lt b) (hlA.lt b)) haft.frame haft.grown haft.same hd hret
      have hext : st.growLoud c key o = true → Ext w w' := fun hg2 => by
        unfold St.growLoud at hg2
        rw [ho] at hg2
        simp only [hf, hfs, Bool.and_eq_true, List.isEmpty_iff] at hg2
        obtain ⟨rfl, hsh⟩ := hg2
        have hz : la.gone ++ la.ids = [] := largs_sh hsh hla
        intro b hb
        refine haft.frame b hb fun hm => ?_
        rw [hperm.mem_iff] at hm
        unfold LA.fp at hm
        rw [hz] at hm; simp at hm
      refine hK Γ' _ w' ?_ (Act.put_defers' _ _ _) hext
      cases hdst : o.dst with
      | none => rw [hdst] at hI; exact hI
      | some d => rw [hdst] at hI; exact hI

/-- All operations that make or change objects are sound. -/
theorem loudOk (hC : CfgOk P c w0 mu) : LoudOk P c w0 mu := by
  intro Γ st a w key o st' ok h hk hq hd hok K Q hK
  unfold St.loud at hq
  split at hq
  · rename_i t d ho hdst
    cases hm : st.canMake d with
    | false => rw [hm] at hq; cases hq
    | true =>
      rw [hm] at hq
      simp only [cond_true, Option.map_eq_some_iff, Prod.mk.injEq] at hq
      obtain ⟨ty, hty, rfl, _⟩ := hq
      exact loud_alloc hC h ho hdst hm hty fun Γ' a' w' hi hdd hx => hK Γ' a' w' hi hdd fun _ => hx
  · rename_i t x d ho hdst
    split at hq
    case h_2 => cases hq
    rename_i ty hty
    split at hq
    case h_2 => cases hq
    rename_i rv hx
    cases hB : (rv.fits ty && rv.noDead && !(rv.hasId d) && st.canMake d) with
    | false => rw [hB] at hq; cases hq
    | true =>
      rw [hB] at hq
      simp only [cond_true, Option.some.injEq, Prod.mk.injEq] at hq
      obtain ⟨rfl, _⟩ := hq
      simp only [Bool.and_eq_true, Bool.not_eq_true'] at hB
      exact loud_box hC h hk ho hdst hB.2 hx hB.1.1.1 hB.1.1.2 hB.1.2 fun Γ' a' w' hi hdd hx => hK Γ' a' w' hi hdd fun _ => hx
  · rename_i t p x ho hdst
    unfold St.store at hq
    split at hq
    case h_1 => cases hq
    rename_i ty hty
    split at hq
    case h_2 => cases hq
    rename_i pv rv hp hx
    split at hq
    case isFalse => cases hq
    rename_i htg
    split at hq
    · rename_i ob path
      split at hq
      case h_2 => cases hq
      rename_i t0 c0 hob
      cases hB : (rv.fits ty && rv.noDead) with
      | false => rw [hB] at hq; cases hq
      | true =>
        rw [hB] at hq
        simp only [cond_true, Option.map_eq_some_iff, Prod.mk.injEq] at hq
        obtain ⟨c1, hput, rfl, _⟩ := hq
        simp only [Bool.and_eq_true] at hB
        simp only [St.tgt, hob, Option.map_eq_some_iff] at htg
        obtain ⟨⟨u, k⟩, hoff, rfl⟩ := htg
        exact store_box hC h ho hdst hty (h.val hk hp) hob hoff (h.val hk hx) hB.1 hB.2 hput fun Γ' a' w' hi hdd => hK Γ' a' w' hi hdd fun hg2 => by unfold St.growLoud at hg2; rw [ho] at hg2; cases hg2
    · rename_i s path
      split at hq
      case h_2 => cases hq
      rename_i e d xs hob
      split at hq
      case h_2 => cases hq
      rename_i y ids hg
      cases hB : (nodupB (s :: ids) && Nat.ble 1 ty.size) with
      | false => rw [hB] at hq; cases hq
      | true =>
        rw [hB] at hq
        simp only [cond_true, Option.map_eq_some_iff, Prod.mk.injEq] at hq
        obtain ⟨xs', hset, rfl, _⟩ := hq
        simp only [Bool.and_eq_true] at hB
        have hpos : 0 < ty.size := by have := hB.2; simp at this; omega
        cases path with
        | nil => simp [St.tgt] at htg
        | cons st0 q =>
          cases st0 with
          | l => simp [St.tgt] at htg
          | r => simp [St.tgt] at htg
          | ix i => exact store_slot hC h ho hdst hty (h.val hk hp) htg hob (h.val hk hx) hg hB.1 hpos hset fun Γ' a' w' hi hdd => hK Γ' a' w' hi hdd fun hg2 => by unfold St.growLoud at hg2; rw [ho] at hg2; cases hg2
    · cases hq
  · rename_i t n ps d ho hdst
    cases hm : st.canMake d with
    | false => rw [hm] at hq; cases hq
    | true =>
      rw [hm] at hq
      exact loud_build hC h hk ho hdst hm hq hok fun Γ' a' w' hi hdd hx => hK Γ' a' w' hi hdd fun _ => hx
  · rename_i t l k d ho hdst
    cases hm : st.canMake d with
    | false => rw [hm] at hq; cases hq
    | true =>
      rw [hm] at hq
      exact loud_make hC h hk ho hdst hm hq hok fun Γ' a' w' hi hdd hx => hK Γ' a' w' hi hdd fun _ => hx
  · rename_i args ts d ho hdst
    split at hq
    case h_2 => cases hq
    rename_i s x t t' hargs hts
    cases hB : (Nat.beq t t' && st.canMake d) with
    | false => rw [hB] at hq; cases hq
    | true =>
      rw [hB] at hq
      simp only [cond_true, Bool.and_eq_true] at hB hq
      have hargs' : args = #[s, x] := by apply Array.ext'; simpa using hargs
      have htt := Nat.eq_of_beq_eq_true hB.1
      have hts' : ts = #[t, t] := by apply Array.ext'; rw [hts, htt]
      subst hargs'; subst hts'
      exact loud_append hC h hk ho hdst hB.2 hq hok fun Γ' a' w' hi hdd => hK Γ' a' w' hi hdd fun hg2 => by unfold St.growLoud at hg2; rw [ho] at hg2; cases hg2
  · rename_i g args ts ho
    exact loud_call hC h hk ho hd hq hok hK
  · cases hq

end
end Go.Tm
end

/- (TmFnDef)
  Functions: the state in which a body begins, and what must hold where it ends.
-/
section
namespace Go.Tm

noncomputable def startCaps (n : Nat) : Nat → List (Ty × Md) → List DV → Option (List Nat × List (Nat × Ob) × List (Nat × Ty × RV) × List LI × List DV)
  | _, [], ds => some ([], [], [], [], ds)
  | id, (t, m) :: cs, d :: ds =>
    match castTo t d.2 with
    | some x =>
      match impM true n (id + n) m t x with
      | some (r, o1, id1) =>
        match startCaps n id1 cs ds with
        | some (os, obs, bxs, lis, rest) => some (id :: os, o1 ++ obs, (id, t, r) :: bxs, .box id t m :: lis, rest)
        | none => none
      | none => none
    | none => none
  | _, _, _ => none

/-- One parameter: its value, its slots, its variables, what is lent, the data that are left. -/
noncomputable def start1 (n i : Nat) : PK → List DV → Option (RV × List (Nat × Ob) × List (Nat × Ty × RV) × List LI × List DV)
  | .sh t, d :: ds =>
    match castTo t d.2 with
    | some x => some (.v t x, [], [], [], ds)
    | none => none
  | .mv t, d :: ds =>
    match castTo t d.2 with
    | some x => bif t.impOk then (match imp n i t x with | (rv, obs, _) => some (rv, obs, [], [], ds)) else none
    | none => none
  | .mu t, d :: ds =>
    match castTo t d.2 with
    | some x => bif t.impOk then (match imp n i t x with | (rv, obs, _) => some (rv, obs, [], [.dat t rv], ds)) else none
    | none => none
  | .bx t m, d :: ds =>
    match castTo t d.2 with
    | some x =>
      match impM true n (i + n) m t x with
      | some (r, obs, _) => some (.bi i [], obs, [(i, t, r)], [.box i t m], ds)
      | none => none
    | none => none
  | .fn f caps, ds =>
    match startCaps n i caps ds with
    | some (os, obs, bxs, lis, rest) => some (.fn f os, obs, bxs, lis, rest)
    | none => none
  | _, _ => none

noncomputable def starts (n : Nat) : Nat → List PK → List DV → Option (List (Nat × Key × RV) × List (Nat × Ob) × List (Nat × Ty × RV) × List LI)
  | _, [], [] => some ([], [], [], [])
  | i, p :: ps, ds =>
    match start1 n i p ds with
    | some (rv, o1, b1, l1, rest) =>
      match starts n (i + 1) ps rest with
      | some (regs, obs, bxs, lis) => some ((i, [], rv) :: regs, o1 ++ obs, b1 ++ bxs, l1 ++ lis)
      | none => none
    | none => none
  | _, _, _ => none

def LI.ids : LI → List Nat
  | .box o _ _ => [o]
  | .dat _ rv => rv.ids

noncomputable def St.start (n : Nat) (ps : List PK) (ds : List DV) : Option (St × List LI) :=
  match starts n 0 ps ds with
  | some (regs, obs, bxs, lis) =>
    bif nodupB (obs.map (·.1) ++ bxs.map (·.1)) && Nat.ble ps.length n then some (⟨n, regs, obs ++ boxObs bxs, lis.flatMap LI.ids⟩, lis) else none
  | none => none

/-- Results: their data; the objects that go with them; the slots that become shared. -/
structure RA where
  ds : List DV
  own : List Nat
  used : List Nat

def RA.app (x y : RA) : RA := ⟨x.ds ++ y.ds, x.own ++ y.own, x.used ++ y.used⟩

def St.finM (st : St) (m : Md) (t : Ty) (rv : RV) : Option RA :=
  match m with
  | .sh =>
    match st.mat t rv with
    | some x => some ⟨[⟨t, x⟩], [], rv.ids⟩
    | none => none
  | .ow =>
    match st.own t rv with
    | some (x, ids) => some ⟨[⟨t, x⟩], ids, []⟩
    | none => none
  | .de => bif rv.fits t then some ⟨[⟨t, t.dflt⟩], [], []⟩ else none

def St.finB (st : St) (m : Md) (t : Ty) (o : Nat) : Option RA :=
  match look st.obs o with
  | some (.box t' c) =>
    bif decide (t' = t) then
      match st.finM m t c with
      | some r => some ⟨r.ds, o :: r.own, r.used⟩
      | none => none
    else none
  | _ => none

def St.fin1 (st : St) : RK → RV → Option RA
  | .val t m, rv => st.finM m t rv
  | .box t m, .bi o [] => st.finB m t o
  | .box _ _, _ => none

def St.fins (st : St) : List RK → List RV → Option RA
  | [], [] => some ⟨[], [], []⟩
  | k :: ks, rv :: rvs =>
    match st.fin1 k rv, st.fins ks rvs with
    | some x, some y => some (x.app y)
    | _, _ => none
  | _, _ => none

def St.lfin (st : St) : List LI → Option RA
  | [] => some ⟨[], [], []⟩
  | .box o t m :: ls =>
    match st.finB m t o, st.lfin ls with
    | some x, some y => some (x.app y)
    | _, _ => none
  | .dat t rv :: ls =>
    match st.own t rv, st.lfin ls with
    | some (x, ids), some y => some ((RA.mk [⟨t, x⟩] ids []).app y)
    | _, _ => none

def St.resVal (c : Cfg) (st : St) : ResultVar → Option RV
  | .tmp r => st.val [] none (.tmp r)
  | .cell a t =>
    match st.val [] none (.tmp a), look c.tys t with
    | some (.bi o []), some ty =>
      match look st.obs o with
      | some (.box t' x) => bif decide (t' = ty) then some x else none
      | _ => none
    | _, _ => none

/-- The end of a body. -/
def St.done (c : Cfg) (res : List ResultVar) (rs : List RK) (lis : List LI) (out : List DV × List DV) (e : Ex) (st : St) : Prop :=
  match e with
  | .exit _ => False
  | _ =>
    match allSome (st.resVal c) res with
    | some rvs =>
      match st.fins rs rvs, st.lfin lis with
      | some a, some b => bif nodupB (a.own ++ b.own) && ((a.used ++ b.used).all fun u => !(lany (a.own ++ b.own) u)) && (lis.flatMap LI.ids).all (lany st.lent) then (a.ds, b.ds) = out else False
      | _, _ => False
    | none => False

def PK.tys : PK → List Ty
  | .sh t => [t]
  | .mv t => [t]
  | .mu t => [t]
  | .bx t _ => [t]
  | .fn _ caps => caps.map (·.1)

def Typed : List Ty → List DV → Prop
  | [], ds => ds = []
  | t :: ts, ds => ∃ x rest, ds = ⟨t, x⟩ :: rest ∧ t.wf x ∧ Typed ts rest

noncomputable def codeOf (fn : Func) : Code :=
  match fn.body with
  | some c => c
  | none => .skip

/-- What is to be shown of a function's body. -/
def BodyOk (c : Cfg) (fn : Func) (fs : FS) : Prop :=
  ∀ ds, Typed (fs.ps.flatMap PK.tys) ds → fs.pre ds →
    match St.start fn.ntmps fs.ps ds with
    | some (st, lis) => tcode c (codeOf fn) (St.done c fn.results.toList fs.rs lis (fs.F ds)) st
    | none => False

end Go.Tm
end

/- (TmFn)
  Functions: the beginning of a body.
-/
section
set_option linter.unusedSimpArgs false
set_option linter.unusedVariables false
namespace Go.Tm

/-- How the lent parameters are found again. -/
def LEnd (hdr : Nat → Value) (bx : Nat → Nat) : List PK → List Value → List LI → Prop
  | [], [], ls => ls = []
  | .sh _ :: ps, _ :: vs, ls => LEnd hdr bx ps vs ls
  | .mv _ :: ps, _ :: vs, ls => LEnd hdr bx ps vs ls
  | .mu t :: ps, v :: vs, ls => ∃ rv cells rest, ls = .dat t rv :: rest ∧ valOf t cells v ∧ rv.fits t = true ∧ HCells hdr rv cells ∧ LEnd hdr bx ps vs rest
  | .bx t m :: ps, v :: vs, ls => ∃ o rest, ls = .box o t m :: rest ∧ v = .pointer (some ⟨bx o, 0, none⟩) ∧ LEnd hdr bx ps vs rest
  | .fn f caps :: ps, v :: vs, ls => ∃ os rest, ls = List.zipWith (fun (c : Ty × Md) o => LI.box o c.1 c.2) caps os ++ rest ∧ os.length = caps.length ∧ v = .func (.func f) #[] (os.map fun o => Value.pointer (some ⟨bx o, 0, none⟩)).toArray ∧ LEnd hdr bx ps vs rest
  | _, _, _ => False

theorem impM_list {w : World} {n : Nat} {okk : Nat → Prop} {m : Md} {t : Ty} {id : Nat} {x : t.den} {cells : List Value} {F : List Nat} {rv : RV} {obs : List (Nat × Ob)} {id' : Nat} (h : Held w okk m t cells x F) (hi : impM true n id m t x = some (rv, obs, id')) :
    ∃ its : List Item, obs = its.map Item.pair ∧ (∀ i ∈ its, i.ok w) ∧ F = its.flatMap Item.F ∧ rv.fits t = true ∧ rv.reads = [] ∧ ∀ E : Env, E.w = w → (∀ b, okk b → E.ok b) → (∀ i ∈ its, i.at E) → CR E rv cells := by
  obtain ⟨its, a1, a2, a3, a4, a5⟩ := impM_sound h hi
  exact ⟨its, a1, a2, a3, a4, impM_reads hi, fun E hE hok => a5 E hE fun _ => hok⟩

theorem startCaps_sound {w : World} {okin : Nat → Prop} {n : Nat} : ∀ {cs : List (Ty × Md)} {id : Nat} {vs : List Value} {ds rest : List DV} {f : List Nat} {os : List Nat} {obs : List (Nat × Ob)} {bxs : List (Nat × Ty × RV)} {lis : List LI} {rest' : List DV},
    CapsR w okin cs vs ds f → startCaps n id cs (ds ++ rest) = some (os, obs, bxs, lis, rest') →
    ∃ (its : List Item) (bits : List BItem), obs = its.map Item.pair ∧ bxs = bits.map BItem.triple ∧ rest' = rest ∧ (∀ i ∈ its, i.ok w) ∧ (∀ i ∈ bits, i.ok w) ∧ f.Perm (its.flatMap Item.F ++ bits.map BItem.b) ∧
      (∀ E : Env, E.w = w → (∀ b, okin b → E.ok b) → (∀ i ∈ its, i.at E) → ∀ i ∈ bits, CR E i.c i.cs.toList) ∧
      os.length = cs.length ∧ lis = List.zipWith (fun (c : Ty × Md) o => LI.box o c.1 c.2) cs os ∧
      (∀ bx : Nat → Nat, (∀ i ∈ bits, bx i.id = i.b) → vs = os.map fun o => Value.pointer (some ⟨bx o, 0, none⟩)) ∧
      ∀ E : Env, (∀ i ∈ bits, i.at E) → ∀ o ∈ os, ∃ t c, E.ob o = some (.box t c)
  | [], id, vs, ds, rest, f, os, obs, bxs, lis, rest', h, hs => by
    cases vs <;> cases ds <;> simp only [CapsR] at h
    subst h
    simp only [List.nil_append, startCaps, Option.some.injEq, Prod.mk.injEq] at hs
    obtain ⟨rfl, rfl, rfl, rfl, rfl⟩ := hs
    exact ⟨[], [], rfl, rfl, rfl, by simp, by simp, by simp, fun E _ _ _ i hi => by simp at hi, rfl, rfl, fun _ _ => rfl, fun _ _ o ho => by simp at ho⟩
  | (t, m) :: cs, id, vs, ds, rest, f, os, obs, bxs, lis, rest', h, hs => by
    cases vs <;> cases ds <;> simp only [CapsR] at h
    rename_i v vs d ds
    obtain ⟨x, f1, f2, rfl, ⟨b, ccs, ety, fb, rfl, hheap, hh, rfl⟩, hrest, rfl⟩ := h
    simp only [List.cons_append, startCaps, castTo_self] at hs
    split at hs
    case h_2 => cases hs
    rename_i r o1 id1 hi
    split at hs
    case h_2 => cases hs
    rename_i os2 obs2 bxs2 lis2 rest2 hs2
    simp only [Option.some.injEq, Prod.mk.injEq] at hs
    obtain ⟨rfl, rfl, rfl, rfl, rfl⟩ := hs
    obtain ⟨i1, a1, a2, a3, a4, a5, a6⟩ := impM_list hh hi
    obtain ⟨i2, bits, b1, b2, b3, b4, b5, b6, b7, b8, b9, b10, b11⟩ := startCaps_sound hrest hs2
    refine ⟨i1 ++ i2, ⟨id, t, r, b, ccs⟩ :: bits, by rw [a1, b1, List.map_append], by rw [b2]; rfl, b3, fun i hi => (List.mem_append.1 hi).elim (a2 i) (b4 i), fun i hi => ?_, ?_, fun E hE hok hall i hi => ?_, by simp [b8], by rw [b9]; rfl, fun bx hbx => ?_, fun E hE o ho => ?_⟩
    · rcases List.mem_cons.1 hi with rfl | hi
      · exact ⟨⟨a4, a5, hh.len⟩, ety, hheap⟩
      · exact b5 i hi
    · rw [a3, List.flatMap_append]
      simp only [List.map_cons, List.cons_append]
      refine (List.Perm.cons b ((List.Perm.append_left _ b6).trans ?_)).trans List.perm_middle.symm
      rw [List.append_assoc]
    · rcases List.mem_cons.1 hi with rfl | hi
      · exact a6 E hE hok fun i hi => hall i (by simp [hi])
      · exact b7 E hE hok (fun i hi => hall i (by simp [hi])) i hi
    · have e1 := hbx ⟨id, t, r, b, ccs⟩ (by simp)
      simp only at e1
      simp only [List.map_cons, e1]
      rw [← b10 bx fun i hi => hbx i (by simp [hi])]
    · rcases List.mem_cons.1 ho with rfl | ho
      · exact ⟨t, r, (hE ⟨o, t, r, b, ccs⟩ (by simp)).2⟩
      · exact b11 E (fun i hi => hE i (by simp [hi])) o ho

theorem VR.of_own {E : Env} {rv : RV} {t : Ty} {cells : List Value} {v : Value} (hc : CR E rv cells) (hf : rv.fits t = true) (hv : valOf t cells v) : VR E rv v := VR.of_cells hc hf hv

theorem starts_sound {w : World} {okin : Nat → Prop} {n : Nat} : ∀ {ps : List PK} {i : Nat} {vs : List Value} {ds : List DV} {fp : List Nat} {regs : List (Nat × Key × RV)} {obs : List (Nat × Ob)} {bxs : List (Nat × Ty × RV)} {lis : List LI},
    ArgsR w okin ps vs ds fp → starts n i ps ds = some (regs, obs, bxs, lis) →
    ∃ (its : List Item) (bits : List BItem), obs = its.map Item.pair ∧ bxs = bits.map BItem.triple ∧ (∀ i ∈ its, i.ok w) ∧ (∀ i ∈ bits, i.ok w) ∧ fp.Perm (its.flatMap Item.F ++ bits.map BItem.b) ∧ vs.length = ps.length ∧
      (∀ E : Env, E.w = w → (∀ b, okin b → E.ok b) → (∀ i ∈ its, i.at E) → ∀ i ∈ bits, CR E i.c i.cs.toList) ∧
      (∀ E : Env, E.w = w → (∀ b, okin b → E.ok b) → (∀ i ∈ its, i.at E) → (∀ i ∈ bits, i.at E) → ∀ r k rv, (r, k, rv) ∈ regs → k = [] ∧ i ≤ r ∧ ∃ v, vs[r - i]? = some v ∧ VR E rv v) ∧
      ∀ hdr bx, (∀ i ∈ its, hdr i.id = i.v) → (∀ i ∈ bits, bx i.id = i.b) → LEnd hdr bx ps vs lis
  | [], i, vs, ds, fp, regs, obs, bxs, lis, h, hs => by
    cases vs <;> cases ds <;> simp only [ArgsR] at h
    · obtain ⟨_, rfl⟩ := h
      simp only [starts, Option.some.injEq, Prod.mk.injEq] at hs
      obtain ⟨rfl, rfl, rfl, rfl⟩ := hs
      exact ⟨[], [], rfl, rfl, by simp, by simp, by simp, rfl, fun E _ _ _ i hi => by simp at hi, fun E _ _ _ _ r k rv hr => by simp at hr, fun _ _ _ _ => rfl⟩
    · exact absurd h.1 (by simp)
  | p :: ps, i, vs, ds, fp, regs, obs, bxs, lis, h, hs => by
    cases vs with
    | nil => cases p <;> simp [ArgsR] at h
    | cons v vs =>
      simp only [starts] at hs
      split at hs
      case h_2 => cases hs
      rename_i rv o1 bx1 l1 rest hs1
      split at hs
      case h_2 => cases hs
      rename_i regs2 obs2 bxs2 lis2 hs2
      simp only [Option.some.injEq, Prod.mk.injEq] at hs
      obtain ⟨rfl, rfl, rfl, rfl⟩ := hs
      -- one parameter and the others
      have comb : ∀ {rest0 : List DV} {f1 f2 : List Nat} {i1 : List Item} {b1 : List BItem}, rest = rest0 → ArgsR w okin ps vs rest0 f2 → fp = f1 ++ f2 → o1 = i1.map Item.pair → bx1 = b1.map BItem.triple → (∀ i ∈ i1, i.ok w) → (∀ i ∈ b1, i.ok w) → f1.Perm (i1.flatMap Item.F ++ b1.map BItem.b) →
          (∀ E : Env, E.w = w → (∀ b, okin b → E.ok b) → (∀ i ∈ i1, i.at E) → ∀ i ∈ b1, CR E i.c i.cs.toList) →
          (∀ E : Env, E.w = w → (∀ b, okin b → E.ok b) → (∀ i ∈ i1, i.at E) → (∀ i ∈ b1, i.at E) → VR E rv v) →
          (∀ hdr bx lis', (∀ i ∈ i1, hdr i.id = i.v) → (∀ i ∈ b1, bx i.id = i.b) → LEnd hdr bx ps vs lis' → LEnd hdr bx (p :: ps) (v :: vs) (l1 ++ lis')) →
          ∃ (its : List Item) (bits : List BItem), o1 ++ obs2 = its.map Item.pair ∧ bx1 ++ bxs2 = bits.map BItem.triple ∧ (∀ i ∈ its, i.ok w) ∧ (∀ i ∈ bits, i.ok w) ∧ fp.Perm (its.flatMap Item.F ++ bits.map BItem.b) ∧ (v :: vs).length = (p :: ps).length ∧
            (∀ E : Env, E.w = w → (∀ b, okin b → E.ok b) → (∀ i ∈ its, i.at E) → ∀ i ∈ bits, CR E i.c i.cs.toList) ∧
            (∀ E : Env, E.w = w → (∀ b, okin b → E.ok b) → (∀ i ∈ its, i.at E) → (∀ i ∈ bits, i.at E) → ∀ r k rv', (r, k, rv') ∈ (i, [], rv) :: regs2 → k = [] ∧ i ≤ r ∧ ∃ v', (v :: vs)[r - i]? = some v' ∧ VR E rv' v') ∧
            ∀ hdr bx, (∀ i ∈ its, hdr i.id = i.v) → (∀ i ∈ bits, bx i.id = i.b) → LEnd hdr bx (p :: ps) (v :: vs) (l1 ++ lis2) := by
        intro rest0 f1 f2 i1 b1 he hargs hfp q1 q2 q3 q4 q5 q6 q7 q8
        subst he
        obtain ⟨i2, b2, c1, c2, c3, c4, c5, c6, c7, c8, c9⟩ := starts_sound hargs hs2
        refine ⟨i1 ++ i2, b1 ++ b2, by rw [q1, c1, List.map_append], by rw [q2, c2, List.map_append], fun i hi => (List.mem_append.1 hi).elim (q3 i) (c3 i), fun i hi => (List.mem_append.1 hi).elim (q4 i) (c4 i), ?_, by simp [c6], fun E hE hok hall i hi => ?_, fun E hE hok hall hb r k rv' hr => ?_, fun hdr bx hh hb => q8 hdr bx _ (fun i hi => hh i (by simp [hi])) (fun i hi => hb i (by simp [hi])) (c9 hdr bx (fun i hi => hh i (by simp [hi])) fun i hi => hb i (by simp [hi]))⟩
        · rw [hfp, List.flatMap_append, List.map_append]
          refine (q5.append c5).trans ?_
          rw [List.append_assoc, List.append_assoc]
          refine List.Perm.append_left _ ?_
          rw [← List.append_assoc, ← List.append_assoc]
          exact List.Perm.append_right _ List.perm_append_comm
        · rcases List.mem_append.1 hi with hi | hi
          · exact q6 E hE hok (fun i hi => hall i (by simp [hi])) i hi
          · exact c7 E hE hok (fun i hi => hall i (by simp [hi])) i hi
        · rcases List.mem_cons.1 hr with hr | hr
          · simp only [Prod.mk.injEq] at hr
            obtain ⟨rfl, rfl, rfl⟩ := hr
            exact ⟨rfl, Nat.le_refl _, v, by simp, q7 E hE hok (fun i hi => hall i (by simp [hi])) fun i hi => hb i (by simp [hi])⟩
          · obtain ⟨d1, d2, v', d3, d4⟩ := c8 E hE hok (fun i hi => hall i (by simp [hi])) (fun i hi => hb i (by simp [hi])) r k rv' hr
            refine ⟨d1, by omega, v', ?_, d4⟩
            rw [show r - i = (r - (i + 1)) + 1 by omega, List.getElem?_cons_succ]; exact d3
      cases p with
      | sh t =>
        obtain ⟨x, rest0, cells, rfl, hv, hr, hargs⟩ := h
        simp only [start1, castTo_self, Option.some.injEq, Prod.mk.injEq] at hs1
        obtain ⟨rfl, rfl, rfl, rfl, rfl⟩ := hs1
        exact comb (i1 := []) (b1 := []) (f1 := []) rfl hargs rfl rfl rfl (by simp) (by simp) (by simp) (fun _ _ _ _ i hi => by simp at hi)
          (fun E hE hok _ _ => VR.of_cells (t := t) (hr.mono hok (fun b _ => by rw [hE])) (by simp [RV.fits]) hv) (fun hdr bx lis' _ _ hl => hl)
      | mv t =>
        obtain ⟨x, rest0, cells, f1, f2, rfl, hv, ho, hargs, rfl⟩ := h
        simp only [start1, castTo_self] at hs1
        cases hok0 : t.impOk with
        | false => rw [hok0] at hs1; cases hs1
        | true =>
          rw [hok0] at hs1
          rcases hi : imp n i t x with ⟨rv0, obs0, id0⟩
          rw [hi] at hs1
          simp only [cond_true, Option.some.injEq, Prod.mk.injEq] at hs1
          obtain ⟨rfl, rfl, rfl, rfl, rfl⟩ := hs1
          obtain ⟨its, a1, a2, a3, a4, a5, a6⟩ := imp_sound ho hok0 hi
          exact comb (i1 := its) (b1 := []) (f1 := f1) rfl hargs rfl a1 rfl a2 (by simp) (by rw [a3]; simp) (fun _ _ _ _ i hi => by simp at hi)
            (fun E hE hok hat _ => VR.of_cells (a5 E hE hat) a4 hv) (fun hdr bx lis' _ _ hl => hl)
      | mu t =>
        obtain ⟨x, rest0, cells, f1, f2, rfl, hv, ho, hargs, rfl⟩ := h
        simp only [start1, castTo_self] at hs1
        cases hok0 : t.impOk with
        | false => rw [hok0] at hs1; cases hs1
        | true =>
          rw [hok0] at hs1
          rcases hi : imp n i t x with ⟨rv0, obs0, id0⟩
          rw [hi] at hs1
          simp only [cond_true, Option.some.injEq, Prod.mk.injEq] at hs1
          obtain ⟨rfl, rfl, rfl, rfl, rfl⟩ := hs1
          obtain ⟨its, a1, a2, a3, a4, a5, a6⟩ := imp_sound ho hok0 hi
          exact comb (i1 := its) (b1 := []) (f1 := f1) rfl hargs rfl a1 rfl a2 (by simp) (by rw [a3]; simp) (fun _ _ _ _ i hi => by simp at hi)
            (fun E hE hok hat _ => VR.of_cells (a5 E hE hat) a4 hv) (fun hdr bx lis' hh _ hl => ⟨_, cells, lis', rfl, hv, a4, a6 hdr hh, hl⟩)
      | bx t m =>
        obtain ⟨x, rest0, f1, f2, rfl, ⟨b, ccs, ety, fb, rfl, hheap, hh, rfl⟩, hargs, rfl⟩ := h
        simp only [start1, castTo_self] at hs1
        split at hs1
        case h_2 => cases hs1
        rename_i r obs0 id0 hi
        simp only [Option.some.injEq, Prod.mk.injEq] at hs1
        obtain ⟨rfl, rfl, rfl, rfl, rfl⟩ := hs1
        obtain ⟨its, a1, a2, a3, a4, a5, a6⟩ := impM_list hh hi
        refine comb (i1 := its) (b1 := [⟨i, t, r, b, ccs⟩]) (f1 := b :: fb) rfl hargs rfl a1 rfl a2 (fun j hj => ?_) ?_ (fun E hE hok hat j hj => ?_) (fun E hE hok hat hbt => ?_) (fun hdr bx lis' _ hb hl => ⟨i, lis', rfl, ?_, hl⟩)
        · simp only [List.mem_singleton] at hj; subst hj
          exact ⟨⟨a4, a5, hh.len⟩, ety, hheap⟩
        · rw [a3]; exact (List.perm_append_comm (l₁ := [b]))
        · simp only [List.mem_singleton] at hj; subst hj
          exact a6 E hE hok hat
        · obtain ⟨e1, e2⟩ := hbt ⟨i, t, r, b, ccs⟩ (by simp)
          simp only at e1 e2
          exact ⟨_, ⟨t, r, t, 0, e2, by unfold Ty.offB; rfl, rfl⟩, by simp [RV.agg, e1]⟩
        · have e1 := hb ⟨i, t, r, b, ccs⟩ (by simp)
          simp only at e1
          rw [e1]
      | fn f caps =>
        obtain ⟨ptrs, d1, rest0, f1, f2, rfl, rfl, hc, hargs, rfl⟩ := h
        simp only [start1] at hs1
        split at hs1
        case h_2 => cases hs1
        rename_i os obs0 bxs0 lis0 rest1 hi
        simp only [Option.some.injEq, Prod.mk.injEq] at hs1
        obtain ⟨rfl, rfl, rfl, rfl, rfl⟩ := hs1
        obtain ⟨its, bits, a1, a2, a3, a4, a5, a6, a7, a8, a9, a10, a11⟩ := startCaps_sound hc hi
        refine comb (i1 := its) (b1 := bits) (f1 := f1) a3 hargs rfl a1 a2 a4 a5 a6 a7 (fun E hE hok hat hbt => ?_) (fun hdr bx lis' _ hb hl => ⟨os, lis', by rw [a9], a8, by rw [a10 bx hb], hl⟩)
        refine ⟨[.func (.func f) #[] (List.toArray ptrs)], ⟨?_, a11 E hbt⟩, by simp [RV.agg]⟩
        rw [a10 E.bx fun i hi => (hbt i hi).1]

theorem flatten_singles : ∀ (l : List BItem), (l.map fun a => [a.b]).flatten = l.map BItem.b
  | [] => rfl
  | a :: l => by simp only [List.map_cons, List.flatten_cons, List.singleton_append]; rw [flatten_singles l]

/-- The state in which a body begins. -/
theorem start_inv {w : World} {okin : Nat → Prop} {n : Nat} {ps : List PK} {vs : List Value} {ds : List DV} {fp : List Nat} {st : St} {lis : List LI} (hok : ∀ b, okin b → b < w.heap.size ∧ b ∉ fp) (hnd : fp.Nodup) (hlt : ∀ b ∈ fp, b < w.heap.size)
    (h : ArgsR w okin ps vs ds fp) (hs : St.start n ps ds = some (st, lis)) :
    ∃ (Γ : Gam) (mu : Lent), mu.bl = fp ∧ (∀ b, mu.no b ↔ (b < w.heap.size ∧ ¬ okin b ∧ b ∉ fp)) ∧ LEnd mu.hdr mu.bx ps vs lis ∧ st.lent = lis.flatMap LI.ids ∧
      Inv w mu Γ st (vs.toArray ++ Array.replicate (n - vs.toArray.size) undef) w := by
  unfold St.start at hs
  split at hs
  case h_2 => cases hs
  rename_i regs obs bxs lis0 hst
  cases hB : (nodupB (obs.map (·.1) ++ bxs.map (·.1)) && Nat.ble ps.length n) with
  | false => rw [hB] at hs; cases hs
  | true =>
    rw [hB] at hs
    simp only [cond_true, Option.some.injEq, Prod.mk.injEq] at hs
    obtain ⟨rfl, rfl⟩ := hs
    simp only [Bool.and_eq_true] at hB
    have hle : ps.length ≤ n := by have := hB.2; simpa using this
    obtain ⟨its, bits, e1, e2, h1, h2, hperm, hlen, hcr, hregs, hlend⟩ := starts_sound h hst
    have hidn : (its.map Item.id ++ bits.map BItem.id).Nodup := by
      have := nodupB_spec hB.1
      rw [e1, e2, List.map_map, List.map_map] at this
      exact this
    have hobs : obs ++ boxObs bxs = its.map Item.pair ++ bits.map BItem.pair := by rw [e1, e2, boxObs_map]
    have hkeys : ((its.map Item.pair ++ bits.map BItem.pair).map (·.1)).Nodup := by
      rw [List.map_append, List.map_map, List.map_map]; exact hidn
    rw [List.nodup_append] at hidn
    have hikey : ((its.map fun i => (i.id, i)).map (·.1)).Nodup := by rw [List.map_map]; exact hidn.1
    have hbkey : ((bits.map fun i => (i.id, i)).map (·.1)).Nodup := by rw [List.map_map]; exact hidn.2.1
    let Γ : Gam :=
      { hdr := fun m => ((look (its.map fun i => (i.id, i)) m).map Item.v).getD undef
        fp := fun m => ((look (its.map fun i => (i.id, i)) m).map Item.F).getD []
        bx := fun m => ((look (bits.map fun i => (i.id, i)) m).map BItem.b).getD 0
        rs := []
        no := fun b => b < w.heap.size ∧ ¬ okin b ∧ b ∉ fp }
    have gi : ∀ i ∈ its, Γ.hdr i.id = i.v ∧ Γ.fp i.id = i.F := fun i hi => by
      have := mem_look hikey (List.mem_map.2 ⟨i, hi, rfl⟩)
      exact ⟨by show ((look _ i.id).map Item.v).getD _ = _; rw [this]; rfl, by show ((look _ i.id).map Item.F).getD _ = _; rw [this]; rfl⟩
    have gb : ∀ i ∈ bits, Γ.bx i.id = i.b := fun i hi => by
      have := mem_look hbkey (List.mem_map.2 ⟨i, hi, rfl⟩)
      show ((look _ i.id).map BItem.b).getD _ = _
      rw [this]; rfl
    let mu : Lent := { bl := fp, hdr := Γ.hdr, bx := Γ.bx, no := Γ.no }
    let st : St := { n := n, regs := regs, obs := obs ++ boxObs bxs, lent := lis0.flatMap LI.ids }
    have hobE : st.obs = its.map Item.pair ++ bits.map BItem.pair := hobs
    have hown : owned Γ st.obs = its.flatMap Item.F ++ bits.map BItem.b := by
      rw [owned_eq, hobE]
      show [] ++ _ = _
      rw [List.nil_append, List.flatMap_append, List.flatMap_map, List.flatMap_map]
      congr 1
      · rw [List.flatMap_def, List.flatMap_def]
        congr 1
        apply List.map_congr_left
        intro i hi
        simp only [Item.pair, Item.ob, obFp]
        exact (gi i hi).2
      · rw [List.flatMap_def]
        have : bits.map (fun a : BItem => obFp Γ a.pair.1 a.pair.2) = bits.map fun a => [a.b] := by
          apply List.map_congr_left
          intro i hi
          simp only [BItem.pair, obFp]
          rw [gb i hi]
        rw [this]
        exact flatten_singles bits
    have hownm : ∀ b, b ∈ owned Γ st.obs ↔ b ∈ fp := fun b => by rw [hown]; exact hperm.mem_iff.symm
    have hE : ∀ b, okin b → (envOf w Γ st.obs).ok b := fun b hb => ⟨(hok b hb).1, fun hm => (hok b hb).2 ((hownm b).1 hm), fun hn => hn.2.1 hb⟩
    have hat : ∀ i ∈ its, i.at (envOf w Γ st.obs) := fun i hi => ⟨(gi i hi).1, by
      show look st.obs i.id = _
      rw [hobE]; exact mem_look hkeys (List.mem_append.2 (.inl (List.mem_map.2 ⟨i, hi, rfl⟩)))⟩
    have hbt : ∀ i ∈ bits, i.at (envOf w Γ st.obs) := fun i hi => ⟨gb i hi, by
      show look st.obs i.id = _
      rw [hobE]; exact mem_look hkeys (List.mem_append.2 (.inr (List.mem_map.2 ⟨i, hi, rfl⟩)))⟩
    refine ⟨Γ, mu, rfl, fun b => Iff.rfl, hlend Γ.hdr Γ.bx (fun i hi => (gi i hi).1) gb, rfl, ?_⟩
    refine ⟨?_, ?_, ?_, ?_, ?_, ?_, ?_, ?_, Nat.le_refl _, ⟨rfl, rfl, rfl⟩, fun i _ => ⟨rfl, rfl⟩, by simp [Γ], rfl, fun b hb => ⟨hb.1, hb.2.2⟩⟩
    · simp only [Array.size_append, Array.size_replicate, List.size_toArray]; omega
    · intro r k rv hm _
      obtain ⟨rfl, _, v, hv, hvr⟩ := hregs (envOf w Γ st.obs) rfl hE hat hbt r k rv hm
      have : (vs.toArray ++ Array.replicate (n - vs.toArray.size) undef).getD r undef = v := by
        rw [Nat.sub_zero] at hv
        rw [Array.getD_eq_getD_getElem?, Array.getElem?_append_left (by simpa using (List.getElem?_eq_some_iff.1 hv).1)]
        simp [hv]
      rw [this]; exact hvr
    · intro r k rv hm hq
      obtain ⟨rfl, _⟩ := hregs (envOf w Γ st.obs) rfl hE hat hbt r k rv hm
      obtain ⟨q, hq, _⟩ := hq
      simp at hq
    · intro o ob hm
      rw [hobE] at hm
      rcases List.mem_append.1 hm with hm | hm
      · obtain ⟨i, hi, e⟩ := List.mem_map.1 hm
        simp only [Item.pair, Prod.mk.injEq] at e
        obtain ⟨rfl, rfl⟩ := e
        refine ⟨(h1 i hi).1, ?_⟩
        show SlotR w i.e _ (Γ.hdr i.id) i.xs (Γ.fp i.id)
        rw [(gi i hi).1, (gi i hi).2]; exact (h1 i hi).2 _
      · obtain ⟨i, hi, e⟩ := List.mem_map.1 hm
        simp only [BItem.pair, Prod.mk.injEq] at e
        obtain ⟨rfl, rfl⟩ := e
        obtain ⟨⟨q1, _⟩, ety, q2⟩ := h2 i hi
        refine ⟨q1, i.cs, ety, ?_, hcr _ rfl hE hat i hi⟩
        show w.heap[Γ.bx i.id]? = _
        rw [gb i hi]; exact q2
    · rw [hobE]; exact hkeys
    · rw [hown]; exact hperm.nodup hnd
    · intro b hb
      exact .inr ((hownm b).1 hb)
    · intro b _ _; rfl

end Go.Tm
end

/- (TmFn2)
  Functions: the end of a body; a function keeps to its description if its body does.
-/
section
set_option linter.unusedSimpArgs false
set_option linter.unusedVariables false
namespace Go.Tm

section
variable {P : Program} {c : Cfg} {w0 : World} {mu : Lent} {Γ : Gam} {st : St} {tmps : Array Value} {w w' : World} {rv : RV}

theorem oldFp_nodup (h : Inv w0 mu Γ st tmps w) : ∀ {l : List Nat}, l.Nodup → (l.flatMap (oldFp Γ st)).Nodup
  | [], _ => by simp
  | s :: l, hn => by
    rw [List.nodup_cons] at hn
    simp only [List.flatMap_cons, List.nodup_append]
    have hnn := h.nodup
    rw [owned_eq, List.nodup_append] at hnn
    refine ⟨?_, oldFp_nodup h hn.2, fun b hb y hy e => ?_⟩
    · unfold oldFp
      cases hl : look st.obs s with
      | none => simp
      | some ob => exact nodup_at (g := fun p => obFp Γ p.1 p.2) (p := (s, ob)) hnn.2.1 (look_mem hl)
    · subst e
      obtain ⟨m, hm, hbm⟩ := List.mem_flatMap.1 hy
      unfold oldFp at hb hbm
      cases hl : look st.obs s with
      | none => rw [hl] at hb; simp at hb
      | some ob =>
        cases hl2 : look st.obs m with
        | none => rw [hl2] at hbm; simp at hbm
        | some ob2 =>
          rw [hl] at hb; rw [hl2] at hbm
          exact ob_disj h (look_mem hl) (look_mem hl2) (by rintro rfl; exact hn.1 hm) b hb hbm

theorem oldFp_owned {l : List Nat} : ∀ b ∈ l.flatMap (oldFp Γ st), b ∈ owned Γ st.obs := fun b hb => by
  obtain ⟨s, _, hb⟩ := List.mem_flatMap.1 hb
  unfold oldFp at hb
  cases hl : look st.obs s with
  | none => rw [hl] at hb; simp at hb
  | some ob =>
    rw [hl] at hb
    rw [owned_eq]; exact List.mem_append.2 (.inr (List.mem_flatMap.2 ⟨_, look_mem hl, hb⟩))

/-- Readable where the shared results may lie. -/
def okU (E : Env) (used : List Nat) : Nat → Prop := fun b => E.ok b ∨ ∃ s ∈ used, b ∈ E.fp s

theorem finM_sound (h : Inv w0 mu Γ st tmps w) {m : Md} {t : Ty} {rv : RV} {cells : List Value} {r : RA} (hc : CR (envOf w Γ st.obs) rv cells) (hq : st.finM m t rv = some r) :
    (∃ x, r.ds = [⟨t, x⟩] ∧ ∀ used, (∀ s ∈ r.used, s ∈ used) → Held w (okU (envOf w Γ st.obs) used) m t cells x (r.own.flatMap (oldFp Γ st))) ∧ rv.agg = t.agg ∧ (∀ a, rv ≠ .tp a) ∧ (∀ s ∈ r.used, ∃ e k xs, look st.obs s = some (.slot e k xs)) := by
  unfold St.finM at hq
  cases m with
  | sh =>
    simp only at hq
    split at hq
    case h_2 => cases hq
    rename_i x hx
    simp only [Option.some.injEq] at hq; subst hq
    obtain ⟨hnd, hn, ha⟩ := mat_agg hx
    refine ⟨⟨x, rfl, fun used hu => ⟨(mat_used h hc hx).mono (fun b hb => hb.imp id fun ⟨s, hs, hb⟩ => ⟨s, hu s hs, hb⟩) (fun _ _ => rfl), rfl⟩⟩, ha, hn, mat_slots (fun _ => rfl) hc hx⟩
  | ow =>
    simp only at hq
    split at hq
    case h_2 => cases hq
    rename_i x ids hx
    simp only [Option.some.injEq] at hq; subst hq
    obtain ⟨h1, h2⟩ := own_sound h hc hx
    refine ⟨⟨x, rfl, fun used hu => ?_⟩, own_agg hx, (own_live hx).2, by simp⟩
    show Own w _ true t cells x _
    rw [flatMap_oldFp h2]; exact Own.any h1
  | de =>
    simp only at hq
    cases hf : rv.fits t with
    | false => rw [hf] at hq; cases hq
    | true =>
      rw [hf] at hq
      simp only [cond_true, Option.some.injEq] at hq; subst hq
      exact ⟨⟨_, rfl, fun used hu => ⟨⟨hc.len.trans (RV.fits_size hf), Ty.wf_dflt t⟩, rfl⟩⟩, RV.fits_agg hf, RV.fits_not_tp hf, by simp⟩

theorem Held.mono' {w : World} {ok ok' : Nat → Prop} {m : Md} {t : Ty} {vs : List Value} {x : t.den} {fp : List Nat} (hok : ∀ b, ok b → ok' b) (h : Held w ok m t vs x fp) : Held w ok' m t vs x fp := by
  cases m with
  | sh => exact ⟨h.1.mono hok (fun _ _ => rfl), h.2⟩
  | ow => exact Own.any h
  | de => exact h

theorem finB_sound (h : Inv w0 mu Γ st tmps w) {m : Md} {t : Ty} {o : Nat} {r : RA} (hq : st.finB m t o = some r) :
    (∃ x, r.ds = [⟨t, x⟩] ∧ ∀ used, (∀ s ∈ r.used, s ∈ used) → BoxR w (okU (envOf w Γ st.obs) used) m t (.pointer (some ⟨Γ.bx o, 0, none⟩)) x (r.own.flatMap (oldFp Γ st))) ∧ (∀ s ∈ r.used, ∃ e k xs, look st.obs s = some (.slot e k xs)) := by
  unfold St.finB at hq
  split at hq
  case h_2 => cases hq
  rename_i t' c ho
  cases ht : decide (t' = t) with
  | false => rw [ht] at hq; cases hq
  | true =>
    rw [ht] at hq
    have := of_decide_eq_true ht
    subst this
    simp only [cond_true] at hq
    split at hq
    case h_2 => cases hq
    rename_i r0 hr0
    simp only [Option.some.injEq] at hq; subst hq
    obtain ⟨hft, cs, ety, hheap, hc⟩ := h.obs o _ (look_mem ho)
    obtain ⟨⟨x, h1, h2⟩, _, _, h3⟩ := finM_sound h hc hr0
    refine ⟨⟨x, h1, fun used hu => ⟨Γ.bx o, cs, ety, _, rfl, hheap, h2 used hu, ?_⟩⟩, h3⟩
    simp [oldFp_box ho]

theorem fins_sound (h : Inv w0 mu Γ st tmps w) : ∀ {ks : List RK} {rvs : List RV} {vs : List Value} {r : RA}, List.length vs = rvs.length → (∀ (i : Nat) rv v, rvs[i]? = some rv → vs[i]? = some v → VR (envOf w Γ st.obs) rv v) → st.fins ks rvs = some r →
    (∀ used, (∀ s ∈ r.used, s ∈ used) → ResL w (okU (envOf w Γ st.obs) used) ks vs r.ds (r.own.flatMap (oldFp Γ st))) ∧ (∀ s ∈ r.used, ∃ e k xs, look st.obs s = some (.slot e k xs))
  | [], [], vs, r, hl, hv, hq => by
    simp only [St.fins, Option.some.injEq] at hq; subst hq
    have : vs = [] := by simpa using hl
    subst this
    exact ⟨fun _ _ => rfl, by simp⟩
  | k :: ks, rv :: rvs, vs, r, hl, hv, hq => by
    simp only [St.fins] at hq
    split at hq
    · rename_i x y hx hy
      simp only [Option.some.injEq] at hq; subst hq
      cases vs with
      | nil => simp at hl
      | cons v vs =>
        obtain ⟨h1, h2⟩ := fins_sound h (vs := vs) (by simpa using hl) (fun i rv v hi hj => hv (i + 1) rv v (by simpa using hi) (by simpa using hj)) hy
        have hv0 := hv 0 rv v rfl rfl
        cases k with
        | val t m =>
          simp only [St.fin1] at hx
          by_cases hnt : ∃ a, rv = .tp a
          · obtain ⟨a, rfl⟩ := hnt
            exfalso
            unfold St.finM at hx
            cases m with
            | sh => simp only at hx; split at hx; rename_i x0 hx0; exact (mat_agg hx0).2.1 a rfl; cases hx
            | ow => simp only at hx; split at hx; rename_i x0 ids hx0; exact (own_live hx0).2 a rfl; cases hx
            | de => simp [RV.fits] at hx
          · obtain ⟨cells, hc, hcv⟩ := hv0.to1 fun a e => hnt ⟨a, e⟩
            obtain ⟨⟨d, h3, h4⟩, h5, h6, h7⟩ := finM_sound h hc hx
            refine ⟨fun used hu => ?_, fun s hs => (List.mem_append.1 hs).elim (h7 s) (h2 s)⟩
            show ResL w _ (.val t m :: ks) (v :: vs) (x.ds ++ y.ds) ((x.own ++ y.own).flatMap (oldFp Γ st))
            rw [h3, List.flatMap_append]
            exact ⟨d, cells, _, _, rfl, by unfold valOf; rw [← h5]; exact hcv, h4 used fun s hs => hu s (List.mem_append.2 (.inl hs)), h1 used fun s hs => hu s (List.mem_append.2 (.inr hs)), rfl⟩
        | box t m =>
          cases rv <;> simp only [St.fin1, reduceCtorEq] at hx
          rename_i o p
          cases p with
          | cons _ _ => cases hx
          | nil =>
            simp only at hx
            obtain ⟨⟨d, h3, h4⟩, h7⟩ := finB_sound h hx
            obtain ⟨vs', ⟨t', c', t2, k, ho, hp, hvs⟩, hv2⟩ := hv0.to1 (by simp)
            simp only [RV.agg, Bool.false_eq_true, if_false] at hv2
            unfold Ty.offB at hp
            simp only [Option.some.injEq, Prod.mk.injEq] at hp
            obtain ⟨_, rfl⟩ := hp
            have hve : v = .pointer (some ⟨Γ.bx o, 0, none⟩) := by rw [hvs] at hv2; exact (List.cons.inj hv2).1.symm
            subst hve
            refine ⟨fun used hu => ?_, fun s hs => (List.mem_append.1 hs).elim (h7 s) (h2 s)⟩
            show ResL w _ (.box t m :: ks) (_ :: vs) (x.ds ++ y.ds) ((x.own ++ y.own).flatMap (oldFp Γ st))
            rw [h3, List.flatMap_append]
            exact ⟨d, _, _, rfl, h4 used fun s hs => hu s (List.mem_append.2 (.inl hs)), h1 used fun s hs => hu s (List.mem_append.2 (.inr hs)), rfl⟩
    · cases hq
  | [], _ :: _, vs, r, _, _, hq => by simp [St.fins] at hq
  | _ :: _, [], vs, r, _, _, hq => by simp [St.fins] at hq

theorem hcells_cr (h : Inv w0 mu Γ st tmps w) {hdr : Nat → Value} : ∀ {t : Ty} {rv : RV} {x : t.den} {ids : List Nat} {cells : List Value}, (∀ s ∈ rv.ids, Γ.hdr s = hdr s) → rv.fits t = true → st.own t rv = some (x, ids) → HCells hdr rv cells → CR (envOf w Γ st.obs) rv cells
  | t, .v u y, x, ids, cells, _, _, _, hc => hc.2 _ _
  | .sl e, .rf s e' n, x, ids, cells, hs, hft, hm, hc => by
    simp only [RV.fits, decide_eq_true_eq, Ty.sl.injEq] at hft
    subst hft
    obtain ⟨rfl, a, cap, hh⟩ := hc
    have hhd := hs s (by simp [RV.ids])
    simp only [St.own] at hm
    split at hm
    · rename_i e2 d xs ho
      cases hd : (d || e2.flat) with
      | false => rw [hd] at hm; cases hm
      | true =>
        rw [hd] at hm
        simp only [cond_true, Option.map_eq_some_iff, Prod.mk.injEq] at hm
        obtain ⟨z, hz, _, _⟩ := hm
        obtain ⟨e3, _⟩ := castTo_inj hz
        cases e3
        obtain ⟨a2, cap2, hh2⟩ := h.hdr ho
        refine ⟨by show [hdr s] = [Γ.hdr s]; rw [hhd], d, xs, ho, ?_⟩
        rw [hhd, hh] at hh2
        simp only [Value.slice.injEq] at hh2
        exact hh2.2.1.symm
    · cases hm
  | .pr a b, .pr p q, x, ids, cells, hs, hft, hm, hc => by
    simp only [RV.fits, Bool.and_eq_true] at hft
    simp only [St.own] at hm
    split at hm
    · rename_i y i z j hy hz
      obtain ⟨v1, v2, rfl, h1, h2⟩ := hc
      exact ⟨v1, v2, rfl, hcells_cr h (fun s hs' => hs s (by simp [RV.ids, hs'])) hft.1 hy h1, hcells_cr h (fun s hs' => hs s (by simp [RV.ids, hs'])) hft.2 hz h2⟩
    · cases hm
  | t, .nl _, _, _, _, _, _, _, hc => hc.elim
  | t, .un, _, _, _, _, _, _, hc => hc.elim
  | t, .vw _ _ _ _, _, _, _, _, _, _, hc => hc.elim
  | t, .bi _ _, _, _, _, _, _, _, hc => hc.elim
  | t, .ptr _ _, _, _, _, _, _, _, hc => hc.elim
  | t, .pv _ _, _, _, _, _, _, _, hc => hc.elim
  | t, .fn _ _, _, _, _, _, _, _, hc => hc.elim
  | t, .dd _, _, _, _, _, _, _, hc => hc.elim
  | t, .tp _, _, _, _, _, _, _, hc => hc.elim
  | .int _, .rf s _ _, x, _, _, _, _, h, _ | .bool, .rf s _ _, x, _, _, _, _, h, _ | .str, .rf s _ _, x, _, _, _, _, h, _ | .un, .rf s _ _, x, _, _, _, _, h, _ | .pr _ _, .rf s _ _, x, _, _, _, _, h, _ => by simp [St.own] at h
  | .int _, .pr _ _, _, _, _, _, _, h, _ | .bool, .pr _ _, _, _, _, _, _, h, _ | .str, .pr _ _, _, _, _, _, _, h, _ | .un, .pr _ _, _, _, _, _, _, h, _ | .sl _, .pr _ _, _, _, _, _, _, h, _ => by simp [St.own] at h

theorem lfin_app : ∀ {l1 l2 : List LI} {r : RA}, st.lfin (l1 ++ l2) = some r → ∃ r1 r2, st.lfin l1 = some r1 ∧ st.lfin l2 = some r2 ∧ r.ds = r1.ds ++ r2.ds ∧ r.own = r1.own ++ r2.own ∧ r.used = r1.used ++ r2.used
  | [], l2, r, h => ⟨⟨[], [], []⟩, r, rfl, h, rfl, rfl, rfl⟩
  | .box o t m :: l1, l2, r, h => by
    simp only [List.cons_append, St.lfin] at h
    split at h
    · rename_i x y hx hy
      simp only [Option.some.injEq] at h; subst h
      obtain ⟨r1, r2, h1, h2, h3, h4, h5⟩ := lfin_app hy
      exact ⟨x.app r1, r2, by simp only [St.lfin, hx, h1], h2, by simp [RA.app, h3], by simp [RA.app, h4], by simp [RA.app, h5]⟩
    · cases h
  | .dat t rv :: l1, l2, r, h => by
    simp only [List.cons_append, St.lfin] at h
    split at h
    · rename_i x ids y hx hy
      simp only [Option.some.injEq] at h; subst h
      obtain ⟨r1, r2, h1, h2, h3, h4, h5⟩ := lfin_app hy
      exact ⟨(RA.mk [⟨t, x⟩] ids []).app r1, r2, by simp only [St.lfin, hx, h1], h2, by simp [RA.app, h3], by simp [RA.app, h4], by simp [RA.app, h5]⟩
    · cases h

theorem lfin_used : ∀ {ls : List LI} {r : RA}, Inv w0 mu Γ st tmps w → st.lfin ls = some r → ∀ s ∈ r.used, ∃ e k xs, look st.obs s = some (.slot e k xs)
  | [], r, h, hq => by simp only [St.lfin, Option.some.injEq] at hq; subst hq; simp
  | .box o t m :: ls, r, h, hq => by
    simp only [St.lfin] at hq
    split at hq
    · rename_i x y hx hy
      simp only [Option.some.injEq] at hq; subst hq
      intro s hs
      exact (List.mem_append.1 hs).elim ((finB_sound h hx).2 s) (lfin_used h hy s)
    · cases hq
  | .dat t rv :: ls, r, h, hq => by
    simp only [St.lfin] at hq
    split at hq
    · rename_i x ids y hx hy
      simp only [Option.some.injEq] at hq; subst hq
      intro s hs
      exact lfin_used h hy s (by simpa [RA.app] using hs)
    · cases hq

theorem caps_back (h : Inv w0 mu Γ st tmps w) {bx : Nat → Nat} {used : List Nat} : ∀ {cs : List (Ty × Md)} {os : List Nat} {r : RA}, os.length = cs.length → (∀ o ∈ os, Γ.bx o = bx o) → st.lfin (List.zipWith (fun (c : Ty × Md) o => LI.box o c.1 c.2) cs os) = some r → (∀ s ∈ r.used, s ∈ used) →
    CapsR w (okU (envOf w Γ st.obs) used) cs (os.map fun o => Value.pointer (some ⟨bx o, 0, none⟩)) r.ds (r.own.flatMap (oldFp Γ st))
  | [], os, r, hl, hb, hq, hu => by
    have : os = [] := by simpa using hl
    subst this
    simp only [List.zipWith, St.lfin, Option.some.injEq] at hq; subst hq
    rfl
  | (t, m) :: cs, [], r, hl, hb, hq, hu => by simp at hl
  | (t, m) :: cs, o :: os, r, hl, hb, hq, hu => by
    simp only [List.zipWith, St.lfin] at hq
    split at hq
    · rename_i x y hx hy
      simp only [Option.some.injEq] at hq; subst hq
      obtain ⟨⟨d, h3, h4⟩, _⟩ := finB_sound h hx
      have h5 := caps_back h (used := used) (by simpa using hl) (fun o ho => hb o (by simp [ho])) hy (fun s hs => hu s (List.mem_append.2 (.inr hs)))
      show CapsR w _ ((t, m) :: cs) (_ :: _) (x.ds ++ y.ds) ((x.own ++ y.own).flatMap (oldFp Γ st))
      rw [h3, List.flatMap_append]
      have h6 := h4 used fun s hs => hu s (List.mem_append.2 (.inl hs))
      rw [hb o (by simp)] at h6
      exact ⟨d, _, _, rfl, h6, h5, rfl⟩
    · cases hq

theorem zip_ids : ∀ {caps : List (Ty × Md)} {os : List Nat} {o : Nat}, os.length = caps.length → o ∈ os → o ∈ (List.zipWith (fun (c : Ty × Md) o => LI.box o c.1 c.2) caps os).flatMap LI.ids
  | [], os, o, hl, ho => by
    have : os = [] := by simpa using hl
    subst this; simp at ho
  | c :: caps, [], o, hl, ho => by simp at hl
  | c :: caps, a :: os, o, hl, ho => by
    simp only [List.zipWith, List.flatMap_cons, List.mem_append]
    rcases List.mem_cons.1 ho with rfl | ho
    · left; simp [LI.ids]
    · exact .inr (zip_ids (by simpa using hl) ho)

theorem lent_back (h : Inv w0 mu Γ st tmps w) {used : List Nat} : ∀ {ps : List PK} {vs : List Value} {ls : List LI} {r : RA}, LEnd mu.hdr mu.bx ps vs ls → (∀ i ∈ ls.flatMap LI.ids, i ∈ st.lent) → st.lfin ls = some r → (∀ s ∈ r.used, s ∈ used) →
    LentR w (okU (envOf w Γ st.obs) used) ps vs r.ds (r.own.flatMap (oldFp Γ st))
  | [], vs, ls, r, hl, hp, hq, hu => by
    cases vs <;> simp only [LEnd] at hl
    subst hl
    simp only [St.lfin, Option.some.injEq] at hq; subst hq
    exact ⟨rfl, rfl⟩
  | .sh t :: ps, vs, ls, r, hl, hp, hq, hu => by
    cases vs <;> simp only [LEnd] at hl
    exact lent_back (ps := ps) h hl hp hq hu
  | .mv t :: ps, vs, ls, r, hl, hp, hq, hu => by
    cases vs <;> simp only [LEnd] at hl
    exact lent_back (ps := ps) h hl hp hq hu
  | .mu t :: ps, vs, ls, r, hl, hp, hq, hu => by
    cases vs <;> simp only [LEnd] at hl
    obtain ⟨rv, cells, rest, rfl, hv, hft, hcell, hl⟩ := hl
    simp only [St.lfin] at hq
    split at hq
    · rename_i x ids y hx hy
      simp only [Option.some.injEq] at hq; subst hq
      have hc := hcells_cr h (fun s hs => (h.pin s (hp s (by simp [LI.ids, hs]))).1) hft hx hcell
      obtain ⟨h1, h2⟩ := own_sound h hc hx
      have h5 := lent_back h (used := used) hl (fun i hi => hp i (by simp only [List.flatMap_cons, List.mem_append]; exact .inr hi)) hy (fun s hs => hu s (List.mem_append.2 (.inr hs)))
      refine ⟨x, y.ds, cells, ids.flatMap Γ.fp, _, rfl, hv, Own.any h1, h5, ?_⟩
      simp only [RA.app, List.flatMap_append, flatMap_oldFp h2]
    · cases hq
  | .bx t m :: ps, vs, ls, r, hl, hp, hq, hu => by
    cases vs <;> simp only [LEnd] at hl
    obtain ⟨o, rest, rfl, rfl, hl⟩ := hl
    simp only [St.lfin] at hq
    split at hq
    · rename_i x y hx hy
      simp only [Option.some.injEq] at hq; subst hq
      obtain ⟨⟨d, h3, h4⟩, _⟩ := finB_sound h hx
      have h5 := lent_back h (used := used) hl (fun i hi => hp i (by simp only [List.flatMap_cons, List.mem_append]; exact .inr hi)) hy (fun s hs => hu s (List.mem_append.2 (.inr hs)))
      have h6 := h4 used fun s hs => hu s (List.mem_append.2 (.inl hs))
      rw [(h.pin o (hp o (by simp [LI.ids]))).2] at h6
      show LentR w _ (.bx t m :: ps) _ (x.ds ++ y.ds) ((x.own ++ y.own).flatMap (oldFp Γ st))
      rw [h3, List.flatMap_append]
      exact ⟨d, _, _, _, rfl, h6, h5, rfl⟩
    · cases hq
  | .fn f caps :: ps, vs, ls, r, hl, hp, hq, hu => by
    cases vs <;> simp only [LEnd] at hl
    obtain ⟨os, rest, rfl, hlen, rfl, hl⟩ := hl
    obtain ⟨r1, r2, h1, h2, h3, h4, h5⟩ := lfin_app hq
    have hids : ∀ o ∈ os, o ∈ st.lent := fun o ho => by
      refine hp o ?_
      rw [List.flatMap_append, List.mem_append]
      left
      exact zip_ids hlen ho
    have h6 := caps_back h (bx := mu.bx) (used := used) hlen (fun o ho => (h.pin o (hids o ho)).2) h1 (fun s hs => hu s (by rw [h5]; simp [hs]))
    have h7 := lent_back h (used := used) hl (fun i hi => hp i (by rw [List.flatMap_append]; simp only [List.mem_append]; exact .inr hi)) h2 (fun s hs => hu s (by rw [h5]; simp [hs]))
    exact ⟨_, r1.ds, r2.ds, _, _, h3, rfl, h6, h7, by rw [h4, List.flatMap_append]⟩

end
end Go.Tm
end

/- (TmFn3)
  A function keeps to its description if its body does.
-/
section
set_option linter.unusedSimpArgs false
set_option linter.unusedVariables false
namespace Go.Tm

section
variable {P : Program} {c : Cfg} {w0 : World} {mu : Lent} {Γ : Gam} {st : St} {tmps : Array Value} {w w' : World} {rv : RV}

theorem results_run {fn : Func} {tmps : Array Value} (w : World) : ∀ {vs : List Value}, vs.length = fn.results.toList.length →
    (∀ (i : Nat) r v, fn.results.toList[i]? = some r → vs[i]? = some v → (match r with | .tmp t => v = tmps.getD t undef | .cell a t => (do loadVar t (← asAddr (tmps.getD a undef)) : Sem Value).run P w = .ok v w)) →
    (results fn tmps).run P w = .ok (oneVal vs) w := by
  intro vs hl hv
  have key : ∀ (l : List ResultVar) (vs : List Value), vs.length = l.length → (∀ (i : Nat) r v, l[i]? = some r → vs[i]? = some v → (match r with | .tmp t => v = tmps.getD t undef | .cell a t => (do loadVar t (← asAddr (tmps.getD a undef)) : Sem Value).run P w = .ok v w)) →
      (l.mapM fun r => (match r with | .tmp t => pure (tmps.getD t undef) | .cell a t => do loadVar t (← asAddr (tmps.getD a undef)) : Sem Value)).run P w = .ok vs w := by
    intro l
    induction l with
    | nil => intro vs hl _; have : vs = [] := by simpa using hl
             subst this; simp
    | cons r l ih =>
      intro vs hl hv
      cases vs with
      | nil => simp at hl
      | cons v vs =>
        have h1 := hv 0 r v rfl rfl
        have h2 := ih vs (by simpa using hl) fun i r v hi hj => hv (i + 1) r v (by simpa using hi) (by simpa using hj)
        rw [List.mapM_cons]
        cases r with
        | tmp t =>
          simp only at h1
          simp only [Sem.run_bind, Sem.run_pure, Result.andThen_ok, h2, h1]
        | cell a t =>
          simp only at h1
          simp only [Sem.run_bind] at h1 ⊢
          rw [h1]
          simp only [Result.andThen_ok, h2, Sem.run_pure]
  have h1 := key fn.results.toList vs hl hv
  unfold results
  rw [Sem.run_bind]
  have h2 : (fn.results.mapM fun r => (match r with | .tmp t => pure (tmps.getD t undef) | .cell a t => do loadVar t (← asAddr (tmps.getD a undef)) : Sem Value)).run P w = .ok vs.toArray w := by
    rw [Array.mapM_eq_mapM_toList]
    rw [map_eq_pure_bind, Sem.run_bind, h1]
    simp only [Result.andThen_ok, Sem.run_pure]
  refine (congrArg (fun r => Result.andThen r _) h2).trans ?_
  simp only [Result.andThen_ok, Sem.run_pure]
  congr 1
  match vs with
  | [] => simp [oneVal]
  | [v] => simp [oneVal]
  | v :: u :: vs => simp [oneVal]

theorem resVals (hC : CfgOk P c w0 mu) (h : Inv w0 mu Γ st tmps w) {fn : Func} {rvs : List RV} (hq : allSome (st.resVal c) fn.results.toList = some rvs) :
    ∃ vs, (results fn tmps).run P w = .ok (oneVal vs) w ∧ vs.length = rvs.length ∧ ∀ (i : Nat) rv v, rvs[i]? = some rv → vs[i]? = some v → VR (envOf w Γ st.obs) rv v := by
  obtain ⟨hl, hget⟩ := allSome_get hq
  have one : ∀ r rv, st.resVal c r = some rv → ∃ v, (match r with | .tmp t => v = tmps.getD t undef | .cell a t => (do loadVar t (← asAddr (tmps.getD a undef)) : Sem Value).run P w = .ok v w) ∧ VR (envOf w Γ st.obs) rv v := by
    intro r rv hr
    cases r with
    | tmp t =>
      simp only [St.resVal] at hr
      exact ⟨_, rfl, h.val (a := ⟨tmps, []⟩) (key := []) (by simp) hr⟩
    | cell a t =>
      simp only [St.resVal] at hr
      split at hr
      case h_2 => cases hr
      rename_i o ty ha hty
      split at hr
      case h_2 => cases hr
      rename_i t' x ho
      cases ht : decide (t' = ty) with
      | false => rw [ht] at hr; cases hr
      | true =>
        rw [ht] at hr
        have := of_decide_eq_true ht
        subst this
        simp only [cond_true, Option.some.injEq] at hr; subst hr
        obtain ⟨hft, cs, ety, hheap, hc⟩ := h.obs o _ (look_mem ho)
        have hheap' : w.heap[Γ.bx o]? = some (.cells cs ety (0, 0)) := hheap
        have hv := h.val (a := ⟨tmps, []⟩) (key := []) (by simp) ha
        obtain ⟨vs', ⟨t1, c1, t2, k, ho2, hp, hvs⟩, hv2⟩ := hv.to1 (by simp)
        simp only [RV.agg, Bool.false_eq_true, if_false] at hv2
        unfold Ty.offB at hp
        simp only [Option.some.injEq, Prod.mk.injEq] at hp
        obtain ⟨_, rfl⟩ := hp
        have hve : tmps.getD a undef = .pointer (some ⟨Γ.bx o, 0, none⟩) := by rw [hvs] at hv2; exact (List.cons.inj hv2).1.symm
        have hlen : cs.toList.length = t'.size := hc.len.trans (RV.fits_size hft)
        obtain ⟨v, hv3, hv4⟩ := run_loadVar (P := P) (hC.tys _ _ hty) hlen Ty.size_one
        have hrow : RowAt w (Γ.bx o) 0 cs.toList := by
          have := RowAt.of_block (o := 0) (n := cs.toList.length) hheap'
          rw [List.drop_zero, List.take_length] at this; exact this
        refine ⟨v, ?_, VR.of_cells hc hft hv4⟩
        simp only [hve, asAddr, Sem.run_bind, Sem.run_pure, Result.andThen_ok]
        exact hv3 w _ 0 hrow
  have ex : ∀ (l : List ResultVar) (rvs : List RV), rvs.length = l.length → (∀ (i : Nat) a, l[i]? = some a → ∃ b, rvs[i]? = some b ∧ st.resVal c a = some b) →
      ∃ vs : List Value, vs.length = l.length ∧ (∀ (i : Nat) r v, l[i]? = some r → vs[i]? = some v → (match r with | .tmp t => v = tmps.getD t undef | .cell a t => (do loadVar t (← asAddr (tmps.getD a undef)) : Sem Value).run P w = .ok v w)) ∧
        ∀ (i : Nat) rv v, rvs[i]? = some rv → vs[i]? = some v → VR (envOf w Γ st.obs) rv v := by
    intro l
    induction l with
    | nil => intro rvs hl _; exact ⟨[], rfl, fun i r v hi => by simp at hi, fun i rv v _ hj => by simp at hj⟩
    | cons r l ih =>
      intro rvs hl hg
      cases rvs with
      | nil => simp at hl
      | cons rv rvs =>
        obtain ⟨b, hb1, hb2⟩ := hg 0 r rfl
        simp only [List.getElem?_cons_zero, Option.some.injEq] at hb1; subst hb1
        obtain ⟨v, hv1, hv2⟩ := one r rv hb2
        obtain ⟨vs, h1, h2, h3⟩ := ih rvs (by simpa using hl) fun i a ha => by simpa using hg (i + 1) a (by simpa using ha)
        refine ⟨v :: vs, by simp [h1], fun i r' v' hi hj => ?_, fun i rv' v' hi hj => ?_⟩
        · cases i with
          | zero => simp only [List.getElem?_cons_zero, Option.some.injEq] at hi hj; subst hi; subst hj; cases r <;> exact hv1
          | succ i => exact h2 i r' v' (by simpa using hi) (by simpa using hj)
        · cases i with
          | zero => simp only [List.getElem?_cons_zero, Option.some.injEq] at hi hj; subst hi; subst hj; exact hv2
          | succ i => exact h3 i rv' v' (by simpa using hi) (by simpa using hj)
  obtain ⟨vs, h1, h2, h3⟩ := ex _ _ hl hget
  exact ⟨vs, results_run w h1 h2, h1.trans hl.symm, h3⟩

theorem Held.wf {w : World} {ok : Nat → Prop} {m : Md} {t : Ty} {vs : List Value} {x : t.den} {fp : List Nat} (h : Held w ok m t vs x fp) : t.wf x := by
  cases m with
  | sh => exact h.1.wf
  | ow => exact Own.wf h
  | de => exact h.1.2

theorem BoxR.wf {w : World} {ok : Nat → Prop} {m : Md} {t : Ty} {v : Value} {x : t.den} {fp : List Nat} (h : BoxR w ok m t v x fp) : t.wf x := by
  obtain ⟨b, cs, ety, f, _, _, hh, _⟩ := h
  exact hh.wf

theorem typed_caps {w : World} {ok : Nat → Prop} : ∀ {cs : List (Ty × Md)} {vs : List Value} {ds : List DV} {fp : List Nat} {ts : List Ty} {rest : List DV}, CapsR w ok cs vs ds fp → Typed ts rest → Typed (cs.map (·.1) ++ ts) (ds ++ rest)
  | [], vs, ds, fp, ts, rest, h, hr => by
    cases vs <;> cases ds <;> simp only [CapsR] at h
    exact hr
  | (t, m) :: cs, vs, ds, fp, ts, rest, h, hr => by
    cases vs <;> cases ds <;> simp only [CapsR] at h
    obtain ⟨x, f1, f2, rfl, hb, h, rfl⟩ := h
    exact ⟨x, _, rfl, hb.wf, typed_caps h hr⟩

theorem typed_args {w : World} {ok : Nat → Prop} : ∀ {ps : List PK} {vs : List Value} {ds : List DV} {fp : List Nat}, ArgsR w ok ps vs ds fp → Typed (ps.flatMap PK.tys) ds
  | [], vs, ds, fp, h => by
    cases vs <;> simp only [ArgsR] at h
    exact h.1
  | .sh t :: ps, vs, ds, fp, h => by
    cases vs <;> simp only [ArgsR] at h
    obtain ⟨x, rest, cells, rfl, _, hr, h⟩ := h
    exact ⟨x, rest, rfl, hr.wf, typed_args h⟩
  | .mv t :: ps, vs, ds, fp, h => by
    cases vs <;> simp only [ArgsR] at h
    obtain ⟨x, rest, cells, f1, f2, rfl, _, hr, h, _⟩ := h
    exact ⟨x, rest, rfl, hr.wf, typed_args h⟩
  | .mu t :: ps, vs, ds, fp, h => by
    cases vs <;> simp only [ArgsR] at h
    obtain ⟨x, rest, cells, f1, f2, rfl, _, hr, h, _⟩ := h
    exact ⟨x, rest, rfl, hr.wf, typed_args h⟩
  | .bx t m :: ps, vs, ds, fp, h => by
    cases vs <;> simp only [ArgsR] at h
    obtain ⟨x, rest, f1, f2, rfl, hb, h, _⟩ := h
    exact ⟨x, rest, rfl, hb.wf, typed_args h⟩
  | .fn f caps :: ps, vs, ds, fp, h => by
    cases vs <;> simp only [ArgsR] at h
    obtain ⟨ptrs, d1, rest, f1, f2, rfl, _, hc, h, _⟩ := h
    simp only [List.flatMap_cons, PK.tys]
    exact typed_caps hc (typed_args h)

theorem fins_used (h : Inv w0 mu Γ st tmps w) : ∀ {ks : List RK} {rvs : List RV} {vs : List Value} {r : RA}, List.length vs = rvs.length → (∀ (i : Nat) rv v, rvs[i]? = some rv → vs[i]? = some v → VR (envOf w Γ st.obs) rv v) → st.fins ks rvs = some r →
    (∀ s ∈ r.used, ∃ e k xs, look st.obs s = some (.slot e k xs)) := fun hl hv hq => (fins_sound h hl hv hq).2

theorem boxR_mono {w : World} {ok ok' : Nat → Prop} (hok : ∀ b, ok b → ok' b) {m : Md} {t : Ty} {v : Value} {x : t.den} {fp : List Nat} (h : BoxR w ok m t v x fp) : BoxR w ok' m t v x fp := by
  obtain ⟨b, cs, ety, f, h1, h2, h3, h4⟩ := h
  exact ⟨b, cs, ety, f, h1, h2, h3.mono' hok, h4⟩

theorem resL_mono {w : World} {ok ok' : Nat → Prop} (hok : ∀ b, ok b → ok' b) : ∀ {rs : List RK} {vs : List Value} {ds : List DV} {fp : List Nat}, ResL w ok rs vs ds fp → ResL w ok' rs vs ds fp
  | [], vs, ds, fp, h => by
    cases vs <;> cases ds <;> simp only [ResL] at h ⊢
    exact h
  | .val t m :: rs, vs, ds, fp, h => by
    cases vs <;> cases ds <;> simp only [ResL] at h ⊢
    obtain ⟨x, cells, f1, f2, h1, h2, h3, h4, h5⟩ := h
    exact ⟨x, cells, f1, f2, h1, h2, h3.mono' hok, resL_mono hok h4, h5⟩
  | .box t m :: rs, vs, ds, fp, h => by
    cases vs <;> cases ds <;> simp only [ResL] at h ⊢
    obtain ⟨x, f1, f2, h1, h3, h4, h5⟩ := h
    exact ⟨x, f1, f2, h1, boxR_mono hok h3, resL_mono hok h4, h5⟩

theorem capsR_mono {w : World} {ok ok' : Nat → Prop} (hok : ∀ b, ok b → ok' b) : ∀ {cs : List (Ty × Md)} {vs : List Value} {ds : List DV} {fp : List Nat}, CapsR w ok cs vs ds fp → CapsR w ok' cs vs ds fp
  | [], vs, ds, fp, h => by
    cases vs <;> cases ds <;> simp only [CapsR] at h ⊢
    exact h
  | (t, m) :: cs, vs, ds, fp, h => by
    cases vs <;> cases ds <;> simp only [CapsR] at h ⊢
    obtain ⟨x, f1, f2, h1, h3, h4, h5⟩ := h
    exact ⟨x, f1, f2, h1, boxR_mono hok h3, capsR_mono hok h4, h5⟩

theorem lentR_mono {w : World} {ok ok' : Nat → Prop} (hok : ∀ b, ok b → ok' b) : ∀ {ps : List PK} {vs : List Value} {ds : List DV} {fp : List Nat}, LentR w ok ps vs ds fp → LentR w ok' ps vs ds fp
  | [], vs, ds, fp, h => by
    cases vs <;> simp only [LentR] at h ⊢
    exact h
  | .sh t :: ps, vs, ds, fp, h => by
    cases vs <;> simp only [LentR] at h ⊢
    exact lentR_mono hok h
  | .mv t :: ps, vs, ds, fp, h => by
    cases vs <;> simp only [LentR] at h ⊢
    exact lentR_mono hok h
  | .mu t :: ps, vs, ds, fp, h => by
    cases vs <;> simp only [LentR] at h ⊢
    obtain ⟨x, rest, cells, f1, f2, h1, h2, h3, h4, h5⟩ := h
    exact ⟨x, rest, cells, f1, f2, h1, h2, Own.any h3, lentR_mono hok h4, h5⟩
  | .bx t m :: ps, vs, ds, fp, h => by
    cases vs <;> simp only [LentR] at h ⊢
    obtain ⟨x, rest, f1, f2, h1, h3, h4, h5⟩ := h
    exact ⟨x, rest, f1, f2, h1, boxR_mono hok h3, lentR_mono hok h4, h5⟩
  | .fn f caps :: ps, vs, ds, fp, h => by
    cases vs <;> simp only [LentR] at h ⊢
    obtain ⟨ptrs, d1, rest, f1, f2, h1, h2, h3, h4, h5⟩ := h
    exact ⟨ptrs, d1, rest, f1, f2, h1, h2, capsR_mono hok h3, lentR_mono hok h4, h5⟩

/-- What is left behind where a body ends well. -/
theorem done_after (hC : CfgOk P c w0 mu) (h : Inv w0 mu Γ st tmps w) {okin : Nat → Prop} {fp : List Nat} (hbl : mu.bl = fp) (hno : ∀ b, mu.no b ↔ (b < w0.heap.size ∧ ¬ okin b ∧ b ∉ fp)) {fn : Func} {ps : List PK} {rs : List RK} {vs : List Value} {lis : List LI} (hle : LEnd mu.hdr mu.bx ps vs lis)
    {out : List DV × List DV} {e : Ex} (hd : St.done c fn.results.toList rs lis out e st) :
    (e = .normal ∨ e = .ret) ∧ ∃ v, (results fn tmps).run P w = .ok v w ∧ After w0 w okin ps rs vs fp out.1 out.2 v := by
  have main : ∀ {x : Prop}, (match allSome (st.resVal c) fn.results.toList with
      | some rvs =>
        match st.fins rs rvs, st.lfin lis with
        | some a, some b => bif nodupB (a.own ++ b.own) && ((a.used ++ b.used).all fun u => !(lany (a.own ++ b.own) u)) && (lis.flatMap LI.ids).all (lany st.lent) then (a.ds, b.ds) = out else False
        | _, _ => False
      | none => False) → ∃ v, (results fn tmps).run P w = .ok v w ∧ After w0 w okin ps rs vs fp out.1 out.2 v := by
    intro _ hd
    split at hd
    case h_2 => exact hd.elim
    rename_i rvs hrvs
    split at hd
    case h_2 => exact hd.elim
    rename_i a b ha hb
    cases hB : (nodupB (a.own ++ b.own) && ((a.used ++ b.used).all fun u => !(lany (a.own ++ b.own) u)) && (lis.flatMap LI.ids).all (lany st.lent)) with
    | false => rw [hB] at hd; exact hd.elim
    | true =>
      rw [hB] at hd
      simp only [cond_true] at hd
      subst hd
      simp only [Bool.and_eq_true] at hB
      have hlent : ∀ i ∈ lis.flatMap LI.ids, i ∈ st.lent := fun i hi => lany_iff.1 (List.all_eq_true.1 hB.2 i hi)
      have hB := hB.1
      obtain ⟨vals, hrun, hlen, hvr⟩ := resVals hC h hrvs
      obtain ⟨hres, hu1⟩ := fins_sound h hlen hvr ha
      have hu2 := lfin_used h hb
      have hrl := hres (a.used ++ b.used) fun s hs => List.mem_append.2 (.inl hs)
      have hll := lent_back h (used := a.used ++ b.used) hle hlent hb fun s hs => List.mem_append.2 (.inr hs)
      have hnd := oldFp_nodup h (nodupB_spec hB.1)
      rw [List.flatMap_append] at hnd
      have hfown : ∀ x, x ∈ a.own.flatMap (oldFp Γ st) ++ b.own.flatMap (oldFp Γ st) → x ∈ owned Γ st.obs := fun x hx => by
        rw [← List.flatMap_append] at hx; exact oldFp_owned x hx
      have hokU : ∀ x, okU (envOf w Γ st.obs) (a.used ++ b.used) x → okOut w0 w okin fp (a.own.flatMap (oldFp Γ st) ++ b.own.flatMap (oldFp Γ st)) x := fun x hx => by
        rcases hx with hx | ⟨s, hs, hx⟩
        · refine ⟨hx.1, fun hm => hx.2.1 (hfown x hm), fun hlt => ?_⟩
          have h1 : ¬ Γ.no x := hx.2.2
          rw [h.nop.1, hno] at h1
          by_cases h2 : okin x
          · exact .inl h2
          · by_cases h3 : x ∈ fp
            · exact .inr h3
            · exact absurd ⟨hlt, h2, h3⟩ h1
        · obtain ⟨e1, k1, xs1, ho⟩ := (List.mem_append.1 hs).elim (hu1 s) (hu2 s)
          have hxo := mem_owned_slot (look_mem ho) x hx
          refine ⟨h.lt x hxo, fun hm => ?_, fun hlt => ?_⟩
          · rw [← List.flatMap_append] at hm
            obtain ⟨s2, hs2, hx2⟩ := List.mem_flatMap.1 hm
            have hu := List.all_eq_true.1 hB.2 s hs
            have hne : s ≠ s2 := by
              rintro rfl
              rw [lany_iff.2 hs2] at hu; cases hu
            unfold oldFp at hx2
            cases hl2 : look st.obs s2 with
            | none => rw [hl2] at hx2; simp at hx2
            | some ob2 =>
              rw [hl2] at hx2
              exact ob_disj h (look_mem ho) (look_mem hl2) hne x (by simpa [obFp, envOf] using hx) hx2
          · rcases h.low x hxo with h1 | h1
            · omega
            · exact .inr (by rw [← hbl]; exact h1)
      refine ⟨oneVal vals, hrun, ⟨vals, _, _, rfl, resL_mono hokU hrl, lentR_mono hokU hll, hnd, fun x hx => ?_⟩, fun x hx hxf => h.frame x hx (by rw [hbl]; exact hxf), h.grown, h.same⟩
      rcases h.low x (hfown x hx) with h1 | h1
      · exact .inl h1
      · exact .inr (by rw [← hbl]; exact h1)
  cases e with
  | exit id => exact hd.elim
  | normal => exact ⟨.inl rfl, main (x := True) hd⟩
  | ret => exact ⟨.inr rfl, main (x := True) hd⟩

/-- A function keeps to its description if its body does. -/
theorem sn_of_body (hC : CfgOk0 P c) (hm : P.follows .mixedOrders = true) {f : FuncId} {fn : Func} {fs : FS} (hf : P.funcs[f]? = some fn) (hb0 : fn.body.isSome = true) (h : BodyOk c fn fs) : Sn P c.gl f fs := by
  intro w args ds fp okin hok hgl hargs hnd hlt hpre
  have hb : fn.body = some (codeOf fn) := by
    unfold codeOf
    cases h : fn.body with
    | none => rw [h] at hb0; cases hb0
    | some c => rfl
  have hbody := h ds (typed_args hargs) hpre
  split at hbody
  case h_2 => exact hbody.elim
  rename_i st lis hst
  obtain ⟨Γ, mu, hbl, hno, hle, hlent, hI⟩ := start_inv hok hnd hlt hargs hst
  have hC : CfgOk P c w mu := { hC with glob := by rw [hbl]; exact hgl }
  refine calls_of_wp hf hb ?_
  refine wp_mono (tcode_sound hC (loudOk hC) hm _ _ hbody hI rfl) ?_
  rintro e a' w' ⟨e', st', Γ', rfl, hk, hi, hdd⟩
  obtain ⟨he, v, hr, haft⟩ := done_after hC hi hbl hno hle hk
  rcases he with rfl | rfl
  · exact bodyPost_end hr hdd ⟨v, rfl, haft⟩
  · exact bodyPost_ret hr hdd ⟨v, rfl, haft⟩

end
end Go.Tm
end

/- (TmFn4)
  Working with bodies: the end left open; states that say less.
-/
section
set_option linter.unusedSimpArgs false
set_option linter.unusedVariables false
namespace Go.Tm

/-- A body, its end left open. -/
theorem body_of {c : Cfg} {fn : Func} {fs : FS}
    (h : ∀ ds, Typed (fs.ps.flatMap PK.tys) ds → fs.pre ds → ∃ st lis, St.start fn.ntmps fs.ps ds = some (st, lis) ∧
      ∀ (K : Ex → St → Prop) (out : List DV × List DV), out = fs.F ds → (∀ e s, St.done c fn.results.toList fs.rs lis out e s → K e s) → tcode c (codeOf fn) K st) : BodyOk c fn fs := by
  intro ds ht hp
  obtain ⟨st, lis, hs, hk⟩ := h ds ht hp
  rw [hs]
  exact hk _ _ rfl fun _ _ h => h

theorem out1 {t : Ty} {x y : t.den} (h : x = y) : (([⟨t, x⟩] : List DV), ([] : List DV)) = ([⟨t, y⟩], []) := by rw [h]
theorem out2 {t u : Ty} {x y : t.den} {p q : u.den} (h : x = y) (h' : p = q) : (([⟨t, x⟩, ⟨u, p⟩] : List DV), ([] : List DV)) = ([⟨t, y⟩, ⟨u, q⟩], []) := by rw [h, h']

theorem Le.refl (st : St) : Le st st := fun _ _ Γ _ _ h => ⟨Γ, h⟩
theorem Le.trans {a b c : St} (h : Le a b) (h' : Le b c) : Le a c := fun w0 mu Γ tmps w hi => by
  obtain ⟨Γ1, h1⟩ := h w0 mu Γ tmps w hi
  exact h' w0 mu Γ1 tmps w h1

def Ob.ids : Ob → List Nat
  | .box _ c => c.ids
  | .slot _ _ _ => []

def refsOk (R : List (Nat × Key × RV)) (O : List (Nat × Ob)) : Bool :=
  nodupB (O.map (·.1)) && (R.all fun e => e.2.2.ids.all (lany (O.map (·.1)))) && O.all fun p => p.2.ids.all (lany (O.map (·.1)))

theorem allP_all {α : Type} {f : α → Prop} : ∀ {l : List α}, allP f l → ∀ a ∈ l, f a
  | [], _, a, ha => by simp at ha
  | [x], h, a, ha => by simp only [List.mem_singleton] at ha; subst ha; exact h
  | x :: y :: l, h, a, ha => by
    rcases List.mem_cons.1 ha with rfl | ha
    · exact h.1
    · exact allP_all h.2 a ha

theorem nodup_of_map {α β : Type} {f : α → β} {l : List α} (h : (l.map f).Nodup) : l.Nodup := List.Pairwise.of_map f (fun _ _ h e => h (by rw [e])) h

/-- Registers and objects are forgotten. -/
theorem le_sub {n : Nat} {R R' : List (Nat × Key × RV)} {O O' : List (Nat × Ob)} {L : List Nat} (hR : allP (fun e => look R e.1 = some e.2) R') (hO : allP (fun p => look O p.1 = some p.2) O') (hB : refsOk R' O' = true) : Le ⟨n, R, O, L⟩ ⟨n, R', O', L⟩ := by
  intro w0 mu Γ tmps w h
  simp only [refsOk, Bool.and_eq_true] at hB
  have hRm : ∀ e ∈ R', e ∈ R := fun e he => look_mem (allP_all hR e he)
  have hOl : ∀ p ∈ O', look O p.1 = some p.2 := allP_all hO
  have hOn : (O'.map (·.1)).Nodup := nodupB_spec hB.1.1
  have hids1 : ∀ e ∈ R', ∀ m ∈ e.2.2.ids, m ∈ O'.map (·.1) := fun e he m hm => lany_iff.1 (List.all_eq_true.1 (List.all_eq_true.1 hB.1.2 e he) m hm)
  have hids2 : ∀ p ∈ O', ∀ m ∈ p.2.ids, m ∈ O'.map (·.1) := fun p hp m hm => lany_iff.1 (List.all_eq_true.1 (List.all_eq_true.1 hB.2 p hp) m hm)
  have hlk : ∀ m ∈ O'.map (·.1), look O' m = look O m := fun m hm => by
    obtain ⟨p, hp, rfl⟩ := List.mem_map.1 hm
    rw [mem_look hOn (show (p.1, p.2) ∈ O' from hp), hOl p hp]
  let rs' := Γ.rs ++ (O.filter fun p => !(lany (O'.map (·.1)) p.1)).flatMap fun p => obFp Γ p.1 p.2
  let Γ' : Gam := { Γ with rs := rs' }
  have hfp : ∀ m ob, obFp Γ' m ob = obFp Γ m ob := fun m ob => by cases ob <;> rfl
  have hnd := h.nodup
  rw [owned_eq] at hnd
  -- the objects that stay, in the old order
  have hperm : O'.Perm (O.filter fun p => lany (O'.map (·.1)) p.1) := by
    refine (List.perm_ext_iff_of_nodup (nodup_of_map hOn) (nodup_of_map (List.Nodup.sublist (List.Sublist.map _ List.filter_sublist) h.ids))).2 fun p => ?_
    simp only [List.mem_filter]
    constructor
    · intro hp
      exact ⟨look_mem (hOl p hp), lany_iff.2 (List.mem_map.2 ⟨p, hp, rfl⟩)⟩
    · rintro ⟨hp, hq⟩
      obtain ⟨q, hq1, hq2⟩ := List.mem_map.1 (lany_iff.1 hq)
      have h1 := hOl q hq1
      rw [hq2, mem_look h.ids (show (p.1, p.2) ∈ O from hp)] at h1
      have : p = q := by
        cases p; cases q
        simp only [Option.some.injEq] at h1
        simp only at hq2
        rw [h1, hq2]
      rw [this]; exact hq1
  have hown : (owned Γ' O').Perm (owned Γ O) := by
    rw [owned_eq, owned_eq]
    show (rs' ++ O'.flatMap fun p => obFp Γ' p.1 p.2).Perm _
    have e1 : (fun p : Nat × Ob => obFp Γ' p.1 p.2) = fun p => obFp Γ p.1 p.2 := by funext p; exact hfp _ _
    rw [e1]
    simp only [rs', List.append_assoc]
    refine List.Perm.append_left _ ?_
    have e2 : (O'.flatMap fun p => obFp Γ p.1 p.2).Perm ((O.filter fun p => lany (O'.map (·.1)) p.1).flatMap fun p => obFp Γ p.1 p.2) := List.Perm.flatMap_right _ hperm
    refine (List.perm_append_comm.trans (e2.append_right _)).trans ?_
    rw [← List.flatMap_append]
    exact List.Perm.flatMap_right _ (List.filter_append_perm _ _)
  have hok : ∀ b, (envOf w Γ O).ok b → (envOf w Γ' O').ok b := fun b hb => ⟨hb.1, fun hm => hb.2.1 (hown.mem_iff.1 hm), hb.2.2⟩
  have hsame : ∀ m ∈ O'.map (·.1), SameOb (envOf w Γ O) (envOf w Γ' O') m := fun m hm =>
    ⟨rfl, rfl, rfl, fun e d xs ho => ⟨d, xs, (hlk m hm).trans ho, rfl⟩, fun t cc ho => ⟨cc, (hlk m hm).trans ho⟩⟩
  refine ⟨Γ', h.step (st' := ⟨n, R', O', L⟩) rfl hok (fun _ _ => rfl) ?_ ?_ hOn (hown.nodup_iff.2 h.nodup) (fun b hb => h.low b (hown.mem_iff.1 hb)) h.frame h.grown h.same h.pin ?_ rfl⟩
  · intro r k rv hm
    exact ⟨hRm _ hm, fun m hmi => hsame m (hids1 _ hm m hmi), fun _ _ _ _ _ _ _ _ => rfl⟩
  · intro o ob hm
    have hmO : (o, ob) ∈ O := look_mem (hOl _ hm)
    refine ObR.mono (E := envOf w Γ O) hok (fun _ _ => rfl) rfl rfl rfl (h.obs o ob hmO) ?_ (fun _ _ _ _ _ _ => rfl)
    rintro t cc rfl
    exact ⟨rfl, fun m hmi => hsame m (hids2 _ hm m hmi), fun _ _ _ _ => rfl⟩
  · intro b hb
    refine h.lt b (hown.mem_iff.1 ?_)
    rw [owned_eq]; exact List.mem_append.2 (.inl hb)

/-- An empty slice is a slot of its own. -/
theorem le_nl {n : Nat} {R : List (Nat × Key × RV)} {O : List (Nat × Ob)} {L : List Nat} {r s : Nat} {e : Ty} {R1 R2 : List (Nat × Key × RV)} (hR : R = R1 ++ (r, [], .nl e) :: R2)
    (hs : (!(lany (O.map (·.1)) s) && !(lany L s) && (R.all fun x => !(lany x.2.2.ids s)) && (O.all fun p => !(lany p.2.ids s)) && Nat.ble 1 e.size) = true) :
    Le ⟨n, R, O, L⟩ ⟨n, R1 ++ (r, [], .rf s e 0) :: R2, (s, .slot e true []) :: O, L⟩ := by
  intro w0 mu Γ tmps w h
  subst hR
  simp only [Bool.and_eq_true, Bool.not_eq_true', Bool.eq_false_iff] at hs
  obtain ⟨⟨⟨⟨h1, h2⟩, h3⟩, h4⟩, h5⟩ := hs
  have hpos : 0 < e.size := by simp at h5; omega
  have hfree : s ∉ O.map (·.1) := fun hm => h1 (lany_iff.2 hm)
  have hlent : s ∉ L := fun hm => h2 (lany_iff.2 hm)
  have hvals : ∀ rv, St.vals ⟨n, R1 ++ (r, [], .nl e) :: R2, O, L⟩ rv → s ∉ rv.ids := fun rv hv hm => by
    rcases hv with ⟨q, k, hv⟩ | ⟨o, t, hv⟩
    · have := List.all_eq_true.1 h3 _ hv
      simp only [Bool.not_eq_true', Bool.eq_false_iff] at this
      exact this (lany_iff.2 hm)
    · have := List.all_eq_true.1 h4 _ hv
      simp only [Bool.not_eq_true', Bool.eq_false_iff] at this
      exact this (lany_iff.2 hm)
  have hreg : (r, ([] : Key), RV.nl e) ∈ (⟨n, R1 ++ (r, [], .nl e) :: R2, O, L⟩ : St).regs := by simp
  have hv := (h.regs r [] _ hreg (by simp)).to1 (by simp)
  obtain ⟨vs, ⟨a, rfl⟩, hve⟩ := hv
  simp only [RV.agg, Bool.false_eq_true, if_false] at hve
  have hval : tmps.getD r undef = .slice a 0 0 := (List.cons.inj hve).1.symm
  have h6 := h.add (d := s) (ob := .slot e true []) (F := []) (hd := .slice a 0 0) (bx := w.heap.size) (G := []) hfree hvals hlent Made.refl (by simp [obFp, Gam.add, upd_self]) (by simp) (by simp) (by simp) fun A =>
    ⟨hpos, by
      show SlotR w e _ (upd Γ.hdr s (.slice a 0 0) s) [] (upd Γ.fp s [] s)
      rw [upd_self, upd_self]
      exact ⟨a, 0, rfl, Nat.le_refl _, Nat.zero_le _, .inl ⟨rfl, rfl⟩⟩⟩
  refine ⟨_, ⟨h6.size, fun q k rv hm hk => ?_, fun q k rv hm hk => ?_, h6.obs, h6.ids, h6.nodup, h6.low, h6.frame, h6.grown, h6.same, h6.pin, h6.rlt, h6.nop⟩⟩
  · rcases List.mem_append.1 hm with hm | hm
    · exact h6.regs q k rv (List.mem_append.2 (.inl hm)) hk
    · rcases List.mem_cons.1 hm with hm | hm
      · simp only [Prod.mk.injEq] at hm
        obtain ⟨rfl, rfl, rfl⟩ := hm
        refine ⟨[.slice a 0 0], ⟨?_, true, [], ?_, rfl⟩, by simp [RV.agg, hval]⟩
        · show _ = [upd Γ.hdr s (.slice a 0 0) s]
          rw [upd_self]
        · show look ((s, Ob.slot e true []) :: O) s = _
          simp [look]
      · exact h6.regs q k rv (List.mem_append.2 (.inr (List.mem_cons_of_mem _ hm))) hk
  · rcases List.mem_append.1 hm with hm | hm
    · exact h6.off q k rv (List.mem_append.2 (.inl hm)) hk
    · rcases List.mem_cons.1 hm with hm | hm
      · simp only [Prod.mk.injEq] at hm
        obtain ⟨rfl, rfl, rfl⟩ := hm
        obtain ⟨q2, hq2, _⟩ := hk
        simp at hq2
      · exact h6.off q k rv (List.mem_append.2 (.inr (List.mem_cons_of_mem _ hm))) hk

end Go.Tm
end

/- (TmFn5)
  Descriptions put together.
-/
section
set_option linter.unusedSimpArgs false
set_option linter.unusedVariables false
namespace Go.Tm

theorem cfg_base {P : Program} {c : Cfg} (h1 : (c.tys.map fun p => tyOf P 9 p.1) = c.tys.map fun p => some p.2) (h2 : allP (fun p => EqOk P p.1 p.2) c.cmp) (h3 : c.env = []) : CfgOk0 P c where
  tys := fun t ty h => List.map_inj_left.1 h1 (t, ty) (look_mem h)
  cmp := fun t ty h => allP_all h2 (t, ty) (look_mem h)
  env := fun f fs h => by rw [h3] at h; cases h

def Cfg.add (c : Cfg) (f : FuncId) (fs : FS) : Cfg := { c with env := (f, fs) :: c.env }

theorem cfg_add {P : Program} {c : Cfg} {f : FuncId} {fs : FS} {fn : Func} (h : CfgOk0 P c) (hs : Sn P c.gl f fs) (hf : P.funcs[f]? = some fn) (hb : fn.body.isSome = true) (hn : (fn.name == "runtime.NumGoroutine") = false) : CfgOk0 P (c.add f fs) where
  tys := h.tys
  cmp := h.cmp
  env := fun g gs hg => by
    simp only [Cfg.add, look] at hg
    cases hfg : Nat.beq f g with
    | true =>
      rw [hfg] at hg
      have := Nat.eq_of_beq_eq_true hfg
      subst this
      simp only [cond_true, Option.some.injEq] at hg
      subst hg
      exact ⟨hs, fn, hf, hb, hn⟩
    | false =>
      rw [hfg] at hg
      exact h.env g gs hg

/-- A function and the description that it joins. -/
theorem cfg_fn {P : Program} {c : Cfg} {f : FuncId} {fs : FS} {fn : Func} (h : CfgOk0 P c) (hm : P.follows .mixedOrders = true) (hf : P.funcs[f]? = some fn) (hb : fn.body.isSome = true) (hn : (fn.name == "runtime.NumGoroutine") = false) (hbody : BodyOk c fn fs) : CfgOk0 P (c.add f fs) :=
  cfg_add h (sn_of_body h hm hf hb hbody) hf hb hn

end Go.Tm
end

/- (TmPlan)
  Regions whose order is open: the plan of their orders, laid down beforehand.
-/
section
set_option linter.unusedSimpArgs false
set_option linter.unusedVariables false
namespace Go.Tm

inductive Plan where
  | fin
  | one (i : Nat) (p : Plan)
  | alt (i : Nat) (p q : Plan)
  | quiet

def planAlts (f : Nat → Plan) : List Nat → Plan
  | [] => .fin
  | i :: l => .alt i (f i) (planAlts f l)

/-- What plan there is. -/
def planOf (g : Bool) (ops : Array Oper) : Nat → Array Bool → Plan
  | 0, listed =>
    match Region.ready .any ops listed with
    | [] => .fin
    | _ => .one ops.size .fin
  | fuel + 1, listed =>
    match Region.ready .any ops listed with
    | [] => .fin
    | rs => match (bif g then pickG ops listed rs else pickOp ops listed rs) with
      | some i => .one i (planOf g ops fuel (listed.setIfInBounds i true))
      | none => planAlts (fun i => planOf g ops fuel (listed.setIfInBounds i true)) rs

def regionPlan (ops : Array Oper) : Plan := bif ops.all quietOp then .quiet else planOf (ops.all growOp) ops ops.size (Array.replicate ops.size false)

def planList : Code → List (Nat × Bool × Plan)
  | .region i ops true => [(i, ops.all growOp, regionPlan ops)]
  | .seq a b => planList a ++ planList b
  | .cond _ a b => planList a ++ planList b
  | .block _ a => planList a
  | .loop a => planList a
  | _ => []

def Plan.steps : List Nat → Plan → Plan
  | [], p => p
  | i :: l, p => .one i (Plan.steps l p)

def Plan.same : Plan → Plan → Bool
  | .fin, .fin => true
  | .quiet, .quiet => true
  | .one i p, .one j q => Nat.beq i j && p.same q
  | .alt i p p', .alt j q q' => Nat.beq i j && (p.same q && p'.same q')
  | _, _ => false

theorem Plan.same_eq : ∀ {p q : Plan}, p.same q = true → p = q
  | .fin, .fin, _ => rfl
  | .quiet, .quiet, _ => rfl
  | .one i p, .one j q, h => by
    simp only [Plan.same, Bool.and_eq_true] at h
    rw [Nat.eq_of_beq_eq_true h.1, Plan.same_eq h.2]
  | .alt i p p', .alt j q q', h => by
    simp only [Plan.same, Bool.and_eq_true] at h
    rw [Nat.eq_of_beq_eq_true h.1, Plan.same_eq h.2.1, Plan.same_eq h.2.2]
  | .fin, .quiet, h => by cases h
  | .fin, .one _ _, h => by cases h
  | .fin, .alt _ _ _, h => by cases h
  | .quiet, .fin, h => by cases h
  | .quiet, .one _ _, h => by cases h
  | .quiet, .alt _ _ _, h => by cases h
  | .one _ _, .fin, h => by cases h
  | .one _ _, .quiet, h => by cases h
  | .one _ _, .alt _ _ _, h => by cases h
  | .alt _ _ _, .fin, h => by cases h
  | .alt _ _ _, .quiet, h => by cases h
  | .alt _ _ _, .one _ _, h => by cases h

def planOk (ops : Array Oper) (g : Bool) (p : Plan) : Bool :=
  match ops.all growOp, g with
  | true, false => false
  | false, true => false
  | _, _ => (regionPlan ops).same p && bif ops.all quietOp then Region.lexB .any ops else Region.noSelect ops

def okPlans (ps : List (Nat × Bool × Plan)) : Code → Bool
  | .region i ops true =>
    match look ps i with
    | some (g, p) => planOk ops g p
    | none => true
  | .seq a b => okPlans ps a && okPlans ps b
  | .cond _ a b => okPlans ps a && okPlans ps b
  | .block _ a => okPlans ps a
  | .loop a => okPlans ps a
  | _ => true

noncomputable def tstep (c : Cfg) (ops : Array Oper) (g : Bool) (i : Nat) (K : St → Prop) (st : St) : Prop :=
  match ops[i]? with
  | some o => bif g then bif st.growStep c o then top c ops o K st else False else top c ops o K st
  | none => False

noncomputable def tplan (c : Cfg) (ops : Array Oper) (g : Bool) (K : St → Prop) : Plan → St → Prop
  | .fin, st => K st
  | .quiet, st => tqL c ops ops.toList K st
  | .one i p, st => (match ops[i]? with | some o => tq c ops o (tplan c ops g K p) st | none => False)
  | .alt i p .fin, st => tstep c ops g i (tplan c ops g K p) st
  | .alt i p q, st => tstep c ops g i (tplan c ops g K p) st ∧ tplan c ops g K q st

/-- The state behind one operation. -/
noncomputable def ostep (c : Cfg) (ops : Array Oper) (o : Oper) (st : St) : Option St :=
  match o.guard with
  | none =>
    match st.quiet c [] o with
    | some (rv, _) => some (st.setK o.dst [] rv)
    | none =>
      match st.loud c [] o with
      | some (st', _) => some st'
      | none => none
  | some (g, want) =>
    match guardReg ops g with
    | none => none
    | some r =>
      match look st.regs r with
      | some (k, .v .bool _) =>
        match st.quiet c ((r, want) :: k) o with
        | some (rv, _) => some (st.setK o.dst ((r, want) :: k) rv)
        | none =>
          match st.calm c ((r, want) :: k) o with
          | some (rv, _) => some (st.setK o.dst ((r, want) :: k) rv)
          | none => none
      | _ => none

/-- The state where the first order ends. -/
noncomputable def trun (c : Cfg) (ops : Array Oper) : Plan → St → Option St
  | .fin, st => some st
  | .quiet, _ => none
  | .one i p, st => (match ops[i]? with | some o => (match ostep c ops o st with | some s => trun c ops p s | none => none) | none => none)
  | .alt i p _, st => (match ops[i]? with | some o => (match ostep c ops o st with | some s => trun c ops p s | none => none) | none => none)

def Plan.forks : Plan → Bool
  | .fin => false
  | .quiet => false
  | .one _ p => p.forks
  | .alt _ p .fin => p.forks
  | .alt _ _ _ => true

structure LeJ (st st' : St) : Prop where
  le : Le st st'

theorem leJ {n : Nat} {R R' : List (Nat × Key × RV)} {O O' : List (Nat × Ob)} {L : List Nat} (hR : allP (fun e => look R e.1 = some e.2) R') (hO : allP (fun p => look O p.1 = some p.2) O') (hB : refsOk R' O' = true) : LeJ ⟨n, R, O, L⟩ ⟨n, R', O', L⟩ := ⟨le_sub hR hO hB⟩

/-- The orders are joined where they end. -/
noncomputable def tplanJ (c : Cfg) (ops : Array Oper) (g : Bool) (K : St → Prop) (p : Plan) (st : St) : Prop :=
  bif p.forks then
    match trun c ops p st with
    | some M => tplan c ops g (fun s => LeJ s M) p st ∧ K M
    | none => False
  else tplan c ops g K p st

/-- Code, where the orders are laid down. -/
noncomputable def tcodeP (ps : List (Nat × Bool × Plan)) (c : Cfg) : Code → (Ex → St → Prop) → St → Prop
  | .skip, K, st => K .normal st
  | .exit id, K, st => K (.exit id) st
  | .ret, K, st => K .ret st
  | .region _ ops false, K, st => topL c ops ops.toList (K .normal) st
  | .region i ops true, K, st =>
    match look ps i with
    | some (g, p) => tplanJ c ops g (K .normal) p st
    | none => False
  | .seq a b, K, st => tcodeP ps c a (fun e st' => match e with | .normal => tcodeP ps c b K st' | e => K e st') st
  | .cond q a b, K, st =>
    match st.val [] none q with
    | some (.v .bool t) => (t = true → tcodeP ps c a K st) ∧ (t = false → tcodeP ps c b K st)
    | _ => False
  | .block id a, K, st => tcodeP ps c a (fun e st' => match e with | .exit j => bif Nat.beq j id then K .normal st' else K (.exit j) st' | e => K e st') st
  | .loop a, K, st => ∃ (α : Type) (S : α → St) (m : α → Nat) (x : α), Le st (S x) ∧
      ∀ x, tcodeP ps c a (fun e st' => match e with | .normal => ∃ y, m y < m x ∧ Le st' (S y) | e => K e st') (S x)
  | _, _, _ => False

section
variable {c : Cfg} {ops : Array Oper} {o : Oper} {K K' : St → Prop} {st : St}

theorem tq_mono (hK : ∀ s, K s → K' s) (h : tq c ops o K st) : tq c ops o K' st := by
  unfold tq at *
  split
  · split
    · rename_i rv ok hq
      simp only [*] at h
      cases hd : dstOk st [] o.dst <;> simp only [hd, cond_true, cond_false] at h ⊢
      exact ⟨h.1, hK _ h.2⟩
    · rename_i hq
      simp only [*] at h
  · rename_i g want hg
    simp only [hg] at h
    split
    · simp_all only
    · rename_i r hr
      simp only [hr] at h
      split
      · rename_i k b hl
        simp only [hl] at h
        split
        · rename_i rv ok hq
          simp only [hq] at h
          cases hd : dstOk st ((r, want) :: k) o.dst <;> simp only [hd, cond_true, cond_false] at h ⊢
          exact ⟨h.1, hK _ h.2⟩
        · rename_i hq
          simp only [hq] at h
      · rename_i hne
        split at h
        · rename_i k b hl; exact absurd hl (hne _ _)
        · exact h

theorem top_mono (hK : ∀ s, K s → K' s) (h : top c ops o K st) : top c ops o K' st := by
  unfold top at *
  split
  · rename_i hg
    simp only [hg] at h
    split
    · rename_i rv ok hq
      simp only [hq] at h
      cases hd : dstOk st [] o.dst <;> simp only [hd, cond_true, cond_false] at h ⊢
      exact ⟨h.1, hK _ h.2⟩
    · rename_i hq
      simp only [hq] at h
      split
      · rename_i st' ok hl
        simp only [hl] at h
        cases hd : dstOk st [] o.dst <;> simp only [hd, cond_true, cond_false] at h ⊢
        exact ⟨h.1, hK _ h.2⟩
      · rename_i hl
        simp only [hl] at h
        split
        · rename_i p neg hn
          simp only [hn] at h
          cases hd : dstOk st [] o.dst <;> simp only [hd, cond_true, cond_false] at h ⊢
          exact fun b hb => hK _ (h b hb)
        · rename_i hn
          simp only [hn] at h
  · rename_i g want hg
    simp only [hg] at h
    split
    · simp_all only
    · rename_i r hr
      simp only [hr] at h
      split
      · rename_i k b hl
        simp only [hl] at h
        split
        · rename_i rv ok hq
          simp only [hq] at h
          cases hd : dstOk st ((r, want) :: k) o.dst <;> simp only [hd, cond_true, cond_false] at h ⊢
          exact ⟨h.1, hK _ h.2⟩
        · rename_i hq
          simp only [hq] at h
          split
          · rename_i rv ok hc
            simp only [hc] at h
            cases hd : dstOk st ((r, want) :: k) o.dst <;> simp only [hd, cond_true, cond_false] at h ⊢
            exact ⟨h.1, hK _ h.2⟩
          · rename_i hc
            simp only [hc] at h
      · rename_i hne
        split at h
        · rename_i k b hl; exact absurd hl (hne _ _)
        · exact h

theorem topL_mono (hK : ∀ s, K s → K' s) : ∀ {l : List Oper} {st : St}, topL c ops l K st → topL c ops l K' st
  | [], _, h => hK _ h
  | _ :: _, _, h => top_mono (fun _ h' => topL_mono hK h') h

theorem tqL_mono (hK : ∀ s, K s → K' s) : ∀ {l : List Oper} {st : St}, tqL c ops l K st → tqL c ops l K' st
  | [], _, h => hK _ h
  | _ :: _, _, h => tq_mono (fun _ h' => tqL_mono hK h') h

theorem tstep_mono {g : Bool} {i : Nat} (hK : ∀ s, K s → K' s) (h : tstep c ops g i K st) : ∃ o, ops[i]? = some o ∧ top c ops o K' st ∧ (g = true → st.growStep c o = true) := by
  unfold tstep at h
  split at h
  · rename_i o ho
    cases g with
    | false => exact ⟨o, ho, top_mono hK h, by simp⟩
    | true =>
      cases hg : st.growStep c o <;> simp only [hg, cond_true, cond_false] at h
      exact ⟨o, ho, top_mono hK h, fun _ => hg⟩
  · exact h.elim

/-- Alternatives, one by one. -/
theorem planAlts_all {g : Bool} {f : Nat → Plan} {R : Nat → St → Prop} :
    ∀ {l : List Nat} {st : St}, l ≠ [] → tplan c ops g K (planAlts f l) st → (∀ i ∈ l, ∀ s, tstep c ops g i (tplan c ops g K (f i)) s → R i s) → ∀ i ∈ l, R i st
  | [], _, h, _, _, _, _ => absurd rfl h
  | [j], st, _, h, hR, i, hi => by
    simp only [List.mem_singleton] at hi; subst hi
    exact hR _ (by simp) _ h
  | j :: k :: l, st, _, h, hR, i, hi => by
    obtain ⟨h1, h2⟩ : tstep c ops g j (tplan c ops g K (f j)) st ∧ tplan c ops g K (planAlts f (k :: l)) st := h
    rcases List.mem_cons.1 hi with rfl | hi
    · exact hR _ (by simp) _ h1
    · exact planAlts_all (by simp) h2 (fun x hx => hR x (List.mem_cons_of_mem _ hx)) i hi

theorem allP_of {α : Type} {f : α → Prop} : ∀ {l : List α}, (∀ x ∈ l, f x) → allP f l
  | [], _ => trivial
  | [a], h => h a (by simp)
  | a :: b :: l, h => ⟨h a (by simp), allP_of fun x hx => h x (List.mem_cons_of_mem _ hx)⟩

theorem tplan_zero {g : Bool} {listed : Array Bool} (h : tplan c ops g K (planOf g ops 0 listed) st) : Region.ready .any ops listed = [] ∧ K st := by
  unfold planOf at h
  split at h
  · rename_i hr; exact ⟨hr, h⟩
  · simp [tplan] at h

theorem tanyG_of_plan (hK : ∀ s, K s → K' s) : ∀ {fuel : Nat} {listed : Array Bool} {st : St}, tplan c ops true K (planOf true ops fuel listed) st → tanyG c ops K' fuel listed st
  | 0, listed, st, h => ⟨(tplan_zero h).1, hK _ (tplan_zero h).2⟩
  | fuel + 1, listed, st, h => by
    unfold planOf at h
    unfold tanyG
    split at h
    · rename_i hr
      rw [hr]
      exact hK _ h
    · rename_i hne
      have hne' : Region.ready .any ops listed ≠ [] := hne
      split
      · rename_i hr; exact absurd hr hne'
      · simp only [cond_true] at h
        split at h
        · rename_i i hp
          simp only [hp]
          unfold tplan at h
          split at h
          · rename_i o ho
            simp only [ho]
            exact tq_mono (fun s hs => tanyG_of_plan hK hs) h
          · exact h.elim
        · rename_i hp
          simp only [hp]
          refine allP_of fun i hi => ?_
          refine planAlts_all (R := fun i st => match ops[i]? with | some o => bif st.growStep c o then top c ops o (tanyG c ops K' fuel (listed.setIfInBounds i true)) st else False | none => False) hne' h ?_ i hi
          intro i _ s hs
          obtain ⟨o, ho, ht, hg⟩ := tstep_mono (fun s' hs' => tanyG_of_plan hK hs') hs
          simp only [ho, hg, cond_true]
          exact ht

theorem tany_of_plan (hK : ∀ s, K s → K' s) : ∀ {fuel : Nat} {listed : Array Bool} {st : St}, tplan c ops false K (planOf false ops fuel listed) st → tany c ops K' fuel listed st
  | 0, listed, st, h => ⟨(tplan_zero h).1, hK _ (tplan_zero h).2⟩
  | fuel + 1, listed, st, h => by
    unfold planOf at h
    unfold tany
    split at h
    · rename_i hr
      rw [hr]
      exact hK _ h
    · rename_i hne
      have hne' : Region.ready .any ops listed ≠ [] := hne
      split
      · rename_i hr; exact absurd hr hne'
      · simp only [cond_false] at h
        split at h
        · rename_i i hp
          simp only [hp]
          unfold tplan at h
          split at h
          · rename_i o ho
            simp only [ho]
            exact tq_mono (fun s hs => tany_of_plan hK hs) h
          · exact h.elim
        · rename_i hp
          simp only [hp]
          refine allP_of fun i hi => ?_
          refine planAlts_all (R := fun i st => match ops[i]? with | some o => top c ops o (tany c ops K' fuel (listed.setIfInBounds i true)) st | none => False) hne' h ?_ i hi
          intro i _ s hs
          obtain ⟨o, ho, ht, hg⟩ := tstep_mono (fun s' hs' => tany_of_plan hK hs') hs
          simp only [ho]
          exact ht

theorem tplanJ_leaf {g : Bool} {p : Plan} (h : tplanJ c ops g K p st) : ∃ K' : St → Prop, (∀ s, K' s → ∃ M, Le s M ∧ K M) ∧ tplan c ops g K' p st ∧ (p.forks = false → K' = K) := by
  unfold tplanJ at h
  cases hf : p.forks with
  | true =>
    simp only [hf, cond_true] at h
    split at h
    · rename_i M hM
      exact ⟨_, fun s hs => ⟨M, hs.le, h.2⟩, h.1, by simp⟩
    · exact h.elim
  | false =>
    simp only [hf, cond_false] at h
    exact ⟨K, fun s hs => ⟨s, Le.refl s, hs⟩, h, fun _ => rfl⟩

theorem tcode_of_plan {ps : List (Nat × Bool × Plan)} : ∀ {code : Code} {K K' : Ex → St → Prop} {st : St}, okPlans ps code = true → (∀ e s, K e s → K' e s) → tcodeP ps c code K st → tcode c code K' st
  | .skip, K, K', st, _, hK, h => hK _ _ h
  | .exit id, K, K', st, _, hK, h => hK _ _ h
  | .ret, K, K', st, _, hK, h => hK _ _ h
  | .region i ops false, K, K', st, _, hK, h => topL_mono (hK _) h
  | .region i ops true, K, K', st, hp, hK, h => by
    simp only [tcodeP] at h
    simp only [okPlans] at hp
    simp only [tcode]
    split at h
    · rename_i g p hl
      simp only [hl, planOk] at hp
      have hg : ops.all growOp = g := by
        cases h1 : ops.all growOp <;> cases g <;> simp [h1] at hp ⊢
      have hp' : ((regionPlan ops).same p && bif ops.all quietOp then Region.lexB .any ops else Region.noSelect ops) = true := by
        rw [hg] at hp
        cases g <;> exact hp
      simp only [Bool.and_eq_true] at hp'
      obtain ⟨hs, hq⟩ := hp'
      have hs := Plan.same_eq hs
      subst hs
      obtain ⟨K0, hK0, h, hf⟩ := tplanJ_leaf h
      have hK1 : ∀ s, K0 s → ∃ M, Le s M ∧ K' .normal M := fun s hs => by
        obtain ⟨M, h1, h2⟩ := hK0 s hs
        exact ⟨M, h1, hK _ _ h2⟩
      unfold regionPlan at h hf
      cases hqq : ops.all quietOp with
      | true =>
        simp only [hqq, cond_true] at h hq ⊢
        rw [hf (by rw [hqq]; rfl)] at h
        exact ⟨hq, tqL_mono (hK _) h⟩
      | false =>
        simp only [hqq, cond_false, hg] at h hq ⊢
        cases g with
        | true => exact ⟨hq, tanyG_of_plan hK1 h⟩
        | false => exact ⟨hq, tany_of_plan hK1 h⟩
    · exact h.elim
  | .seq x y, K, K', st, hp, hK, h => by
    simp only [okPlans, Bool.and_eq_true] at hp
    refine tcode_of_plan (code := x) hp.1 ?_ h
    intro e s hs
    cases e with
    | normal => exact tcode_of_plan (code := y) hp.2 hK hs
    | exit id => exact hK _ _ hs
    | ret => exact hK _ _ hs
  | .cond q x y, K, K', st, hp, hK, h => by
    simp only [okPlans, Bool.and_eq_true] at hp
    simp only [tcodeP] at h
    simp only [tcode]
    split at h
    · rename_i t hq
      simp only [hq]
      exact ⟨fun e => tcode_of_plan (code := x) hp.1 hK (h.1 e), fun e => tcode_of_plan (code := y) hp.2 hK (h.2 e)⟩
    · exact h.elim
  | .block id x, K, K', st, hp, hK, h => by
    refine tcode_of_plan (code := x) hp ?_ h
    intro e s hs
    cases e with
    | normal => exact hK _ _ hs
    | ret => exact hK _ _ hs
    | exit j =>
      simp only at hs ⊢
      cases hj : Nat.beq j id <;> simp only [hj, cond_true, cond_false] at hs ⊢
      · exact hK _ _ hs
      · exact hK _ _ hs
  | .loop x, K, K', st, hp, hK, h => by
    obtain ⟨α, S, m, x0, hle, hstep⟩ := h
    refine ⟨α, S, m, x0, hle, fun y => ?_⟩
    refine tcode_of_plan (code := x) hp ?_ (hstep y)
    intro e s hs
    cases e with
    | normal => exact hs
    | ret => exact hK _ _ hs
    | exit id => exact hK _ _ hs
  | .rangeFunc _ _ _ _, _, _, _, _, _, h => h.elim
  | .scope _, _, _, _, _, _, h => h.elim
  | .label _, _, _, _, _, _, h => h.elim
  | .goto _, _, _, _, _, _, h => h.elim
  | .refuse _, _, _, _, _, _, h => h.elim

end

theorem body_plan {c : Cfg} {fn : Func} {fs : FS} (ps : List (Nat × Bool × Plan)) (hp : okPlans ps (codeOf fn) = true)
    (h : ∀ ds, Typed (fs.ps.flatMap PK.tys) ds → fs.pre ds → ∃ st lis, St.start fn.ntmps fs.ps ds = some (st, lis) ∧
      ∀ (K : Ex → St → Prop) (out : List DV × List DV), out = fs.F ds → (∀ e s, St.done c fn.results.toList fs.rs lis out e s → K e s) → tcodeP ps c (codeOf fn) K st) : BodyOk c fn fs :=
  body_of fun ds ht hpre => by
    obtain ⟨st, lis, h1, h2⟩ := h ds ht hpre
    exact ⟨st, lis, h1, fun K out ho hK => tcode_of_plan hp (fun _ _ h => h) (h2 K out ho hK)⟩

end Go.Tm
end

/- (TmLib)
  Functions of the library, whose law the kit has: from it to a description.
-/
section
namespace Go.Tm

theorem args1 {w : World} {ok : Nat → Prop} {t : Ty} {args : List Value} {ds : List DV} {fp : List Nat} (h : ArgsR w ok [.sh t] args ds fp) :
    ∃ x cells v, args = [v] ∧ ds = [⟨t, x⟩] ∧ fp = [] ∧ valOf t cells v ∧ Rep w ok t cells x := by
  match args, h with
  | [v], h =>
    obtain ⟨x, rest, cells, rfl, hv, hrep, rfl, rfl⟩ := h
    exact ⟨x, cells, v, rfl, rfl, rfl, hv, hrep⟩

theorem argI {w : World} {ok : Nat → Prop} {k : IntKind} {args : List Value} {ds : List DV} {fp : List Nat} (h : ArgsR w ok [.sh (.int k)] args ds fp) :
    ∃ x : Int, args = [.int k x] ∧ ds = [⟨.int k, x⟩] ∧ fp = [] ∧ k.min ≤ x ∧ x ≤ k.max := by
  obtain ⟨x, cells, v, rfl, rfl, rfl, hv, rfl, h0, h1⟩ := args1 h
  simp only [valOf, Ty.agg, Bool.false_eq_true, if_false, List.cons.injEq, and_true] at hv
  subst hv
  exact ⟨x, rfl, rfl, rfl, h0, h1⟩

theorem After.of_grow {w : World} {okin : Nat → Prop} {ps : List PK} {rs : List RK} {args : List Value} {res : List DV} {vs : List Value} {k : Nat} {os : Array Obj}
    (hr : ResL (Sort.grow (w.drewN k) os) (okOut w (Sort.grow (w.drewN k) os) okin [] []) rs vs res []) (hl : LentR (Sort.grow (w.drewN k) os) (okOut w (Sort.grow (w.drewN k) os) okin [] []) ps args [] []) :
    After w (Sort.grow (w.drewN k) os) okin ps rs args [] res [] (oneVal vs) where
  ex := ⟨vs, [], [], rfl, hr, hl, by simp, by simp⟩
  frame := fun b hb _ => by
    show (w.heap ++ os)[b]? = w.heap[b]?
    rw [Array.getElem?_append_left hb]
  grown := by
    show w.heap.size ≤ (w.heap ++ os).size
    rw [Array.size_append]; omega
  same := ⟨rfl, rfl, rfl⟩

/-- An integer goes in, words come out. -/
theorem sn_int_str {P : Program} {gl : Nat → Option Obj} {f : FuncId} {k : IntKind} {fs : FS} {F : Int → ByteArray} (hps : fs.ps = [.sh (.int k)]) (hrs : fs.rs = [.val .str .sh])
    (hF : ∀ x : Int, fs.F [⟨.int k, x⟩] = ([⟨.str, F x⟩], [])) (hlen : ∀ x : Int, k.min ≤ x → x ≤ k.max → (F x).size ≤ lenMax)
    (h : ∀ (x : Int) (w : World), k.min ≤ x → x ≤ k.max → GlobOk gl w [] → Calls P f #[.int k x] w fun e w' => e = .returned (.string (F x)) ∧ ∃ k os, w' = Sort.grow (w.drewN k) os) : Sn P gl f fs := by
  intro w args ds fp okin hok hg ha hn hl hpre
  rw [hps] at ha
  obtain ⟨x, rfl, rfl, rfl, h0, h1⟩ := argI ha
  refine (h x w h0 h1 hg).mono ?_
  rintro e w' ⟨rfl, n, os, rfl⟩
  refine ⟨_, rfl, ?_⟩
  rw [hF, hps, hrs]
  exact After.of_grow (vs := [.string (F x)]) ⟨_, _, [], [], rfl, rfl, ⟨⟨rfl, hlen x h0 h1⟩, rfl⟩, rfl, rfl⟩ ⟨rfl, rfl⟩

end Go.Tm
end

/- (TmPure1)
  Plain laws: how numbers are written.
-/
section
namespace Go.Tm

theorem w64 {x : Int} (h1 : -9223372036854775808 ≤ x) (h2 : x ≤ 9223372036854775807) : IntKind.i64.wrap x = x := by
  rw [IntKind.wrap_i64]; omega

theorem u8w {x : Int} (h1 : 0 ≤ x) (h2 : x ≤ 255) : IntKind.u8.wrap x = x := by
  simp only [IntKind.wrap, IntKind.signed, IntKind.bits]
  simp
  omega

def fig (i : Int) : Int := if i < 10 then IntKind.u8.wrap (IntKind.i64.wrap (48 + i)) else IntKind.u8.wrap (IntKind.i64.wrap (IntKind.i64.wrap (97 + i) - 10))

theorem fig_digit {d : Nat} (h : d < 10) : fig d = 48 + d := by
  unfold fig
  rw [if_pos (by omega), w64 (by omega) (by omega), u8w (by omega) (by omega)]

/-- What spec.FormatInt does. -/
def fmtLoop (n : Int) (acc : ByteArray) : ByteArray :=
  if n = 0 then acc else fmtLoop (n.tdiv 10) (strOfNums [fig (n.tmod 10).natAbs] ++ acc)
  termination_by n.natAbs
  decreasing_by rw [Int.natAbs_tdiv]; exact Nat.div_lt_self (by omega) (by decide)

def fmt (n : Int) : ByteArray := if n = 0 then ⟨#[48]⟩ else if n < 0 then ⟨#[45]⟩ ++ fmtLoop n ByteArray.empty else fmtLoop n ByteArray.empty

def itoa (n : Int) : ByteArray := ⟨(Lib.itoa n).toArray⟩

theorem ba_ext {a b : ByteArray} (h : a.data.toList = b.data.toList) : a = b := by
  cases a; cases b; congr 1; exact Array.ext' h

theorem str1 {d : Nat} (h : d < 10) : strOfNums [fig d] = ⟨#[UInt8.ofNat (48 + d)]⟩ := by
  rw [fig_digit h]
  simp only [strOfNums, List.map_cons, List.map_nil]
  rw [show ((48 : Int) + (d : Int)).toNat = 48 + d by omega]

theorem fmtLoop_zero (acc : ByteArray) : fmtLoop 0 acc = acc := by rw [fmtLoop]; simp

theorem fmtLoop_step {n : Int} (h : n ≠ 0) (acc : ByteArray) : fmtLoop n acc = fmtLoop (n.tdiv 10) (strOfNums [fig (n.tmod 10).natAbs] ++ acc) := by
  rw [fmtLoop, if_neg h]

theorem fmtLoop_digits : ∀ (u : Nat) (n : Int) (acc : ByteArray), 0 < u → n.natAbs = u → fmtLoop n acc = ⟨(Lib.decDigits u).toArray⟩ ++ acc := by
  intro u
  induction u using Nat.strongRecOn with
  | _ u ih =>
    intro n acc hu hn
    have hne : n ≠ 0 := by omega
    rw [fmtLoop_step hne]
    have hm : (n.tmod 10).natAbs = u % 10 := by rw [Int.natAbs_tmod, hn]; rfl
    have hd : (n.tdiv 10).natAbs = u / 10 := by rw [Int.natAbs_tdiv, hn]; rfl
    rw [hm, str1 (Nat.mod_lt _ (by decide))]
    rw [Lib.decDigits]
    by_cases h10 : u < 10
    · rw [dif_pos h10]
      have hz : n.tdiv 10 = 0 := by
        have : (n.tdiv 10).natAbs = 0 := by rw [hd]; exact Nat.div_eq_of_lt h10
        omega
      rw [hz, fmtLoop_zero, Nat.mod_eq_of_lt h10]
    · rw [dif_neg h10, ih (u / 10) (Nat.div_lt_self hu (by decide)) _ _ (Nat.div_pos (by omega) (by decide)) hd]
      apply ba_ext
      simp

theorem fmt_itoa (n : Int) : fmt n = itoa n := by
  unfold fmt itoa Lib.itoa
  by_cases h0 : n = 0
  · subst h0
    rw [if_pos rfl, if_neg (by decide), Lib.decDigits]
    rfl
  · rw [if_neg h0]
    by_cases hn : n < 0
    · rw [if_pos hn, if_pos hn, fmtLoop_digits n.natAbs n _ (by omega) rfl]
      apply ba_ext
      simp
    · rw [if_neg hn, if_neg hn, fmtLoop_digits n.natAbs n _ (by omega) rfl]
      have : n.toNat = n.natAbs := by omega
      rw [this]
      apply ba_ext
      simp

theorem nDigits_le : ∀ (k u : Nat), u < 10 ^ (k + 1) → Lib.nDigits u ≤ k + 1
  | 0, u, h => by rw [Lib.nDigits_small (by simpa using h)]; exact Nat.le_refl _
  | k + 1, u, h => by
    by_cases hu : u < 10
    · rw [Lib.nDigits_small hu]; omega
    · rw [Lib.nDigits_big hu]
      have := nDigits_le k (u / 10) (by rw [Nat.div_lt_iff_lt_mul (by decide)]; rw [Nat.pow_succ] at h; exact h)
      omega

theorem fmt_size {n : Int} (hl : -9223372036854775808 ≤ n) (hh : n ≤ 9223372036854775807) : (itoa n).size ≤ 20 := by
  have key : ∀ u : Nat, u ≤ 9223372036854775808 → (Lib.decDigits u).length ≤ 19 := fun u hu => by
    rw [Lib.decDigits_length]
    exact nDigits_le 18 u (by omega)
  unfold itoa Lib.itoa
  simp only [ByteArray.size, List.size_toArray]
  split
  · rw [List.length_cons]; have := key n.natAbs (by omega); omega
  · have := key n.toNat (by omega); omega

theorem pow_small {k m : Nat} (h : 10 ^ k * m ≤ 9223372036854775808) (hm : 0 < m) : k ≤ 18 := by
  rcases Nat.lt_or_ge 18 k with hk | hk
  · exfalso
    have h1 : 10 ^ 19 ≤ 10 ^ k := Nat.pow_le_pow_right (by decide) hk
    have h2 : 10 ^ k * 1 ≤ 10 ^ k * m := Nat.mul_le_mul_left _ hm
    omega
  · exact hk

end Go.Tm
end

/- (TmBridge)
  From a row's arguments, as the form of claims reads them, to the machine's data.
-/
section
set_option linter.unusedSimpArgs false
set_option linter.unusedVariables false
namespace Go.Tm
open Go.RowKit Go.ChangeShapes Go.WideShapes Go.ChangeAt

/-- Elements of slices take room. -/
def posOk (P : Program) : Nat → TypeId → Bool
  | 0, _ => false
  | n + 1, t =>
    match P.underlying t with
    | some (.slice e) => Nat.blt 0 (P.cellsOf e) && (Nat.blt 0 (P.bytesOf e) && posOk P n e)
    | some (.struct fs) => fs.toList.all fun f => posOk P n f.type
    | _ => true

theorem tyOf_cells {P : Program} {n : Nat} {t : TypeId} {ty : Ty} (h : tyOf P n t = some ty) : P.cellsOf t = ty.size := by
  cases n with
  | zero => simp [tyOf] at h
  | succ n =>
    obtain ⟨i, z, hi, hs, _⟩ := tyOf_info h
    simp [Program.cellsOf, hi, hs]

theorem cells_row {W : World} {base : Nat} {a : Addr} {n : Nat} {row : List Value} (h : W.cells? base a n = some row) :
    row.length = n ∧ ∀ (j : Nat) (v : Value), row[j]? = some v → W.cell? (a.add j) = some v := by
  unfold World.cells? at h
  split at h
  · have hl := Lib.mapM_length h
    simp only [List.length_range] at hl
    refine ⟨hl, fun j v hv => ?_⟩
    have hj : j < n := by
      rw [← hl]; exact (List.getElem?_eq_some_iff.1 hv).1
    obtain ⟨b, hb, hf⟩ := Lib.mapM_at h j j (by simp [hj])
    rw [hv] at hb
    cases hb
    exact hf
  · cases h

theorem cell_spot {W : World} {a : Addr} {v : Value} (h : W.cell? a = some v) : a.spot = none ∧ a.block < W.heap.size := by
  unfold World.cell? at h
  split at h
  · rename_i c _ _ hb
    split at h
    · cases h
    · rename_i hs
      exact ⟨by simpa using hs, (Array.getElem?_eq_some_iff.1 hb).1⟩
  · cases h

theorem add_spot {a : Addr} (h : a.spot = none) (n : Nat) : a.add n = ⟨a.block, a.off + n, none⟩ := by
  unfold Addr.add
  split
  · rename_i h0; subst h0; cases a; simp_all
  · rfl

section
variable {H : Type} {enc : TypeId × Value → H} {P : Program} {W : World} {sp : Nat → Bool} {held : Bool}

def okAll (W : World) : Nat → Prop := fun b => b < W.heap.size

theorem fields_rep {fuel n : Nat} (ih : ∀ (t : TypeId) (ty : Ty) (cs : List Value) (d : DataW H) (ps : List MemPlace), tyOf P n t = some ty → posOk P n t = true → DataW.trod enc P W 0 sp held fuel t cs = some (d, ps) →
      (∀ k ∈ d.weights P t, k ≤ reachBytes) → ∃ x, Rep W (okAll W) ty cs x) {cs : List Value} :
    ∀ {fs : List Field} {off : Nat} {ty : Ty} {xs : List (DataW H × List MemPlace)}, fieldsTy (tyOf P n) fs off = some ty → (fs.all fun f => posOk P n f.type) = true →
      (fs.mapM fun f => DataW.trod enc P W 0 sp held fuel f.type ((cs.drop f.offset).take (P.cellsOf f.type))) = some xs → cs.length = off + ty.size →
      (∀ k ∈ DataW.weightsEach P (fs.map (·.type)) (xs.map (·.1)), k ≤ reachBytes) → ∃ x, Rep W (okAll W) ty (cs.drop off) x
  | [], off, ty, xs, hty, hp, hx, hl, hw => by
    simp only [fieldsTy, Option.some.injEq] at hty
    subst hty
    refine ⟨(), ?_⟩
    simp only [Ty.size, Nat.add_zero] at hl
    show cs.drop off = []
    rw [← hl, List.drop_length]
  | f :: fs, off, ty, xs, hty, hp, hx, hl, hw => by
    simp only [fieldsTy] at hty
    split at hty
    case isFalse => cases hty
    rename_i hoff
    split at hty
    case h_2 => cases hty
    rename_i a ha
    simp only [Option.map_eq_some_iff] at hty
    obtain ⟨b, hb, rfl⟩ := hty
    simp only [List.all_cons, Bool.and_eq_true] at hp
    simp only [List.mapM_cons, Option.bind_eq_bind, Option.bind_eq_some_iff, Option.pure_def, Option.some.injEq] at hx
    obtain ⟨y, hy, ys, hys, rfl⟩ := hx
    rw [tyOf_cells ha] at hy
    simp only [List.map_cons, DataW.weightsEach, List.mem_append] at hw
    obtain ⟨x1, h1⟩ := ih f.type a _ y.1 y.2 ha hp.1 hy fun k hk => hw k (.inl hk)
    obtain ⟨x2, h2⟩ := fields_rep ih hb hp.2 hys (by rw [hl]; simp only [Ty.size]; omega) fun k hk => hw k (.inr hk)
    refine ⟨(x1, x2), (cs.drop off).take a.size, cs.drop (off + a.size), ?_, ?_, h2⟩
    · rw [← List.drop_drop, List.take_append_drop]
    · rw [← hoff]; exact h1

theorem weights_all {e : TypeId} {k : Nat} {d : DataW H} : ∀ {ds : List (DataW H)}, d ∈ ds → k ∈ d.weights P e → k ∈ DataW.weightsAll P e ds
  | x :: ds, hd, hk => by
    simp only [DataW.weightsAll, List.mem_append]
    rcases List.mem_cons.1 hd with rfl | hd
    · exact .inl hk
    · exact .inr (weights_all hd hk)

theorem rep_of_trod : ∀ (n fuel : Nat) (t : TypeId) (ty : Ty) (cs : List Value) (d : DataW H) (ps : List MemPlace), tyOf P n t = some ty → posOk P n t = true → DataW.trod enc P W 0 sp held fuel t cs = some (d, ps) →
    (∀ k ∈ d.weights P t, k ≤ reachBytes) → ∃ x, Rep W (okAll W) ty cs x
  | 0, _, _, _, _, _, _, h, _, _, _ => by simp [tyOf] at h
  | n + 1, 0, t, ty, cs, d, ps, h, hp, ht, hw => by simp [DataW.trod] at ht
  | n + 1, fuel + 1, t, ty, cs, d, ps, h, hp, ht, hw => by
    rcases tyOf_cases h with ⟨k, hu, rfl⟩ | ⟨hu, rfl⟩ | ⟨hu, rfl⟩ | ⟨e, te, hu, he, rfl⟩ | ⟨fs, hu, hf, _⟩
    · obtain ⟨x, rfl, _, hwf⟩ := DataW.trod_int hu ht
      simp only [Lit.wf, Bool.and_eq_true, decide_eq_true_eq] at hwf
      exact ⟨x, rfl, hwf.1, hwf.2⟩
    · obtain ⟨b, rfl, _⟩ := DataW.trod_bool hu ht
      exact ⟨b, rfl⟩
    · obtain ⟨s, rfl, hd, _⟩ := DataW.trod_string hu ht
      simp only [Prod.mk.injEq] at hd
      obtain ⟨rfl, _⟩ := hd
      have := hw s.data.toList.length (by simp [DataW.weights])
      refine ⟨s, rfl, ?_⟩
      rw [Lib.size_eq]
      simp only [reachBytes] at this
      unfold lenMax; omega
    · simp only [posOk, hu, Bool.and_eq_true, Nat.blt_eq] at hp
      obtain ⟨hc0, hb0, hpe⟩ := hp
      rcases DataW.trod_slice hu ht with ⟨rfl, _⟩ | ⟨a, len, cap, elems, rest, m, hfu, rfl, hd, _, hlc, _, hel, hels, _, _⟩
      · exact ⟨[], none, 0, rfl, Nat.le_refl _, Nat.zero_le _, fun h => absurd rfl h⟩
      · obtain rfl : fuel = m := by omega
        simp only [Prod.mk.injEq] at hd
        obtain ⟨rfl, _⟩ := hd
        have hcs := tyOf_cells he
        have helem : ∀ i, i < len → ∃ x, ∃ row, W.cells? 0 (a.add (i * P.cellsOf te)) (P.cellsOf te) = some row ∧ Rep W (okAll W) e row x := by
          intro i hi
          have h1 := hels i hi
          have hie : i < elems.length := by omega
          rw [List.getElem?_eq_getElem hie] at h1
          simp only [Option.bind_eq_some_iff] at h1
          obtain ⟨row, hr1, hr2⟩ := h1
          obtain ⟨x, hx⟩ := rep_of_trod n fuel te e row elems[i].1 elems[i].2 he hpe hr2 (fun k hk => hw k (by
            simp only [DataW.weights, hu, List.mem_cons, List.mem_append]
            exact .inr (.inl (weights_all (List.mem_map.2 ⟨elems[i], List.getElem_mem hie, rfl⟩) hk))))
          exact ⟨x, row, hr1, hx⟩
        have hlen : len ≤ lenMax := by
          have := hw _ (by simp only [DataW.weights, hu]; exact List.mem_cons_self)
          simp only [List.length_map, reachBytes, hel] at this
          have h3 : len * 1 ≤ (len + rest.length) * P.bytesOf te := Nat.mul_le_mul (by omega) hb0
          unfold lenMax; omega
        classical
        let xs : List e.den := (List.range len).map fun i => if hi : i < len then Classical.choose (helem i hi) else e.dflt
        have hxl : xs.length = len := by simp [xs]
        refine ⟨xs, some a, cap, by rw [hxl], by rw [hxl]; exact hlc, by rw [hxl]; exact hlen, fun hne => ?_⟩
        have h0 : 0 < len := by rw [← hxl]; exact List.length_pos_iff.2 hne
        obtain ⟨x0, row0, hr0, _⟩ := helem 0 h0
        obtain ⟨hl0, hc1⟩ := cells_row hr0
        obtain ⟨hs, hb⟩ := cell_spot (hc1 0 row0[0] (by simp))
        have ha0 : (a.add (0 * P.cellsOf te)).add 0 = a := by simp [Addr.add]
        rw [ha0] at hs hb
        refine ⟨a.block, a.off, by cases a; simp_all, hb, fun i hi => ?_⟩
        have hi' : i < len := by rw [← hxl]; exact hi
        obtain ⟨row, hr1, hr2⟩ := Classical.choose_spec (helem i hi')
        refine ⟨row, ?_, ?_⟩
        · intro j v hv
          have h5 := (cells_row hr1).2 j v hv
          rw [add_spot hs, add_spot rfl, hcs] at h5
          exact h5
        · have : xs[i] = Classical.choose (helem i hi') := by simp [xs, hi']
          rw [this]; exact hr2
    · have hc := tyOf_cells h
      simp only [DataW.trod, hu] at ht
      split at ht
      case isFalse => cases ht
      rename_i hlen
      simp only [Option.map_eq_some_iff] at ht
      obtain ⟨xs, hxs, hxe⟩ := ht
      simp only [Prod.mk.injEq] at hxe
      obtain ⟨rfl, _⟩ := hxe
      simp only [posOk, hu] at hp
      have := fields_rep (fun t ty cs d ps => rep_of_trod n fuel t ty cs d ps) hf hp hxs (by rw [hlen, hc]; omega) (by simpa only [DataW.weights, hu] using hw)
      simpa using this

theorem val_of_wide {n : Nat} {t : TypeId} {ty : Ty} {base : Nat} {v : Value} (h : tyOf P n t = some ty) (hv : Value.okWide P W .any base t v) : valOf ty v.cells.toList v := by
  cases n with
  | zero => simp [tyOf] at h
  | succ n =>
  unfold valOf
  rcases tyOf_cases h with ⟨k, hu, rfl⟩ | ⟨hu, rfl⟩ | ⟨hu, rfl⟩ | ⟨e, te, hu, he, rfl⟩ | ⟨fs, hu, hf, ha⟩
  · simp only [Value.okWide, hu, Cell.okWide, Cell.ok] at hv
    cases v <;> simp_all [Value.cells, Ty.agg]
  · simp only [Value.okWide, hu, Cell.okWide, Cell.ok] at hv
    cases v <;> simp_all [Value.cells, Ty.agg]
  · simp only [Value.okWide, hu, Cell.okWide, Cell.ok] at hv
    cases v <;> simp_all [Value.cells, Ty.agg]
  · simp only [Value.okWide, hu, Cell.okWide, Cell.ok] at hv
    cases v <;> simp_all [Value.cells, Ty.agg]
  · simp only [Value.okWide, hu] at hv
    obtain ⟨cs, rfl, _⟩ := hv
    simp [ha, Value.cells]

/-- All arguments, as shared data. -/
theorem args_of_trod {n base : Nat} : ∀ {ts : List TypeId} {tys : List Ty} {vs : List Value} {ds : List (DataW H)} {ps : List MemPlace}, (ts.map (tyOf P n)) = tys.map some → (ts.all (posOk P n)) = true →
    DataW.TrodAll enc P W 0 sp held ts vs ds ps → (∀ (j : Nat) t v, ts[j]? = some t → vs[j]? = some v → Value.okWide P W .any base t v) → (∀ k ∈ DataW.weightsEach P ts ds, k ≤ reachBytes) →
    ∃ dvs, ArgsR W (okAll W) (tys.map .sh) vs dvs []
  | [], [], [], [], ps, _, _, _, _, _ => ⟨[], rfl, rfl⟩
  | t :: ts, ty :: tys, v :: vs, d :: ds, ps, hty, hp, ht, hv, hw => by
    simp only [List.map_cons, List.cons.injEq] at hty
    simp only [List.all_cons, Bool.and_eq_true] at hp
    obtain ⟨p, q, ⟨fuel, h1⟩, h2, rfl⟩ := ht
    simp only [DataW.weightsEach, List.mem_append] at hw
    obtain ⟨x, hx⟩ := rep_of_trod n fuel t ty _ d p hty.1 hp.1 h1 fun k hk => hw k (.inl hk)
    obtain ⟨dvs, hd⟩ := args_of_trod hty.2 hp.2 h2 (fun j t v a b => hv (j + 1) t v (by simpa using a) (by simpa using b)) fun k hk => hw k (.inr hk)
    exact ⟨⟨ty, x⟩ :: dvs, x, dvs, _, rfl, val_of_wide hty.1 (hv 0 t v rfl rfl), hx, hd⟩
  | [], _ :: _, _, _, _, h, _, _, _, _ => by simp at h
  | _ :: _, [], _, _, _, h, _, _, _, _ => by simp at h
  | [], [], _ :: _, _, _, _, _, h, _, _ => h.elim
  | [], [], [], _ :: _, _, _, _, h, _, _ => h.elim
  | _ :: _, _ :: _, [], _, _, _, _, h, _, _ => h.elim
  | _ :: _, _ :: _, _ :: _, [], _, _, _, h, _, _ => h.elim

theorem sameAt_of {W' : World} (hsame : ∀ b, b < W.heap.size → W'.heap[b]? = W.heap[b]?) {p : MemPlace} (hp : p.block < W.heap.size) : W.sameAt W' p := by
  cases p with
  | cell b o => exact World.cell?_of_block (w := W) (hsame b hp)
  | map b => exact hsame b hp

/-- What was read is read again. -/
theorem trodAll_stays {W' : World} (hl : laidOutB P = true) (hsame : ∀ b, b < W.heap.size → W'.heap[b]? = W.heap[b]?) {sp' : Nat → Bool} :
    ∀ {ts : List TypeId} {vs : List Value} {ds : List (DataW H)} {ps : List MemPlace}, (ts.all fun t => P.readableRec t && Nat.blt t P.types.size) = true → (∀ x ∈ ps, x.block < W.heap.size) → (∀ x ∈ ps, sp' x.block = true) →
      DataW.TrodAll enc P W 0 (fun _ => true) true ts vs ds ps → DataW.TrodAll enc P W' 0 sp' true ts vs ds ps
  | [], [], [], ps, _, _, _, h => h
  | t :: ts, v :: vs, d :: ds, ps, hr, hlt, hsp, h => by
    simp only [List.all_cons, Bool.and_eq_true, Nat.blt_eq] at hr
    obtain ⟨p, q, h1, h2, rfl⟩ := h
    refine ⟨p, q, WideElems.Trod_stays hl hr.1.1 hr.1.2 h1 (fun x hx => sameAt_of hsame (hlt x (by simp [hx]))) (fun x hx => hsp x (by simp [hx])), ?_, rfl⟩
    exact trodAll_stays hl hsame hr.2 (fun x hx => hlt x (by simp [hx])) (fun x hx => hsp x (by simp [hx])) h2
  | [], _ :: _, _, _, _, _, _, h => h.elim
  | [], [], _ :: _, _, _, _, _, h => h.elim
  | _ :: _, [], _, _, _, _, _, h => h.elim
  | _ :: _, _ :: _, [], _, _, _, _, h => h.elim

end

/-- A law that answered yes. -/
theorem law_post {H : Type} {enc : TypeId × Value → H} {P : Program} {f : Func} {s : ChangeSpec} {apart fresh : Bool} {W W' : World} {args : Array Value} {ds gs : List (DataW H)} {before : List MemPlace} {v : Value} {tb : TypeId} {tys : List Ty} {upd : List DV}
    (hl : laidOutB P = true) (hvars : s.vars = []) (hpar : (f.params.toList.all fun t => P.readableRec t && Nat.blt t P.types.size) = true) (hres : f.resultTypes = #[tb]) (hb : P.underlying tb = some .bool)
    (hW : DataW.Whole enc P f.params.toList s.vars apart W args.toList ds gs before) (hfn : s.fn H (ds ++ []) = { results := [.lit (.bool true)], args := ds })
    (ha : After W W' (okAll W) (tys.map .sh) [.val .bool .sh] args.toList [] [⟨.bool, true⟩] upd v) : s.post enc P f apart fresh false false W args v W' := by
  have hW' := hW
  obtain ⟨p, q, hA, hV, rfl, _, _⟩ := hW
  rw [hvars] at hV
  obtain ⟨rfl, rfl⟩ := trodVars_none hV
  have hlt := hW'.lt
  obtain ⟨vs, fr, fl, rfl, hr, _, _, _⟩ := ha.ex
  match vs, hr with
  | [v1], hr =>
    obtain ⟨x, cells, f1, f2, hx, hv, ⟨hrep, _⟩, _⟩ := hr
    cases hx
    have hrep' : cells = [.bool true] := hrep
    simp only [valOf, Ty.agg, Bool.false_eq_true, if_false] at hv
    rw [hrep'] at hv
    simp only [List.cons.injEq, and_true] at hv
    subst hv
    refine ⟨ds, [], p ++ [], [], p, [], hW', ?_, ?_, ?_, ?_, fun h => by cases h⟩
    · rw [hfn, hres]
      exact trodAll_mk1 (shut_bool hb true)
    · rw [hfn]
      refine trodAll_stays hl (fun b hb => ha.frame b hb (by simp)) hpar (fun x hx => ?_) (fun x hx => ?_) hA
      · exact hlt x (by simp [hx])
      · simpa using hlt x (by simp [hx])
    · rw [hfn, hvars]; rfl
    · refine ⟨ha.same.1, ha.same.2.2, fun i hi => ?_⟩
      rw [ha.frame i hi (by simp)]
      split
      · rename_i h1 h2
        rw [h1] at h2; cases h2
        exact ⟨rfl, rfl, rfl, fun _ _ => rfl⟩
      · rename_i h1 h2
        rw [h1] at h2; cases h2
        exact .inr ⟨rfl, rfl⟩
      · rfl

/-- A law of which it is known that it answers yes whatever it is given. -/
theorem law_calls {H : Type} {enc : TypeId × Value → H} {P : Program} {f : FuncId} {fn : Func} {s : ChangeSpec} {apart fresh : Bool} {W : World} {base : Nat} {args : Array Value} {ds gs : List (DataW H)} {before : List MemPlace} {tb : TypeId} {gl : Nat → Option Obj} {fs : FS} (tys : List Ty)
    (hsn : Sn P gl f fs) (hg : GlobOk gl W []) (hps : fs.ps = tys.map .sh) (hrs : fs.rs = [.val .bool .sh]) (hF : ∀ dvs, (fs.F dvs).1 = [⟨.bool, true⟩]) (hpre : ∀ dvs, fs.pre dvs)
    (hty : fn.params.toList.map (tyOf P 9) = tys.map some) (hpos : fn.params.toList.all (posOk P 9) = true)
    (hl : laidOutB P = true) (hvars : s.vars = []) (hpar : (fn.params.toList.all fun t => P.readableRec t && Nat.blt t P.types.size) = true) (hres : fn.resultTypes = #[tb]) (hb : P.underlying tb = some .bool)
    (hval : ∀ (j : Nat) t v, fn.params[j]? = some t → args[j]? = some v → Value.okWide P W .any base t v)
    (hW : DataW.Whole enc P fn.params.toList s.vars apart W args.toList ds gs before) (hfn : s.fn H (ds ++ []) = { results := [.lit (.bool true)], args := ds })
    (hsz : (DataW.weightsEach P (fn.params.toList ++ s.plain.varTypes P) (ds ++ gs)).all (· ≤ reachBytes) = true) :
    Calls P f args W fun e W' => ∃ v, e = .returned v ∧ s.post enc P fn apart fresh false false W args v W' := by
  have hW' := hW
  obtain ⟨p, q, hA, hV, rfl, _, _⟩ := hW
  have hV' := hV
  rw [hvars] at hV'
  obtain ⟨rfl, rfl⟩ := trodVars_none hV'
  have hvt : s.plain.varTypes P = [] := by simp [ChangeSpec.plain, DataSpec.varTypes, hvars]
  rw [hvt, List.append_nil, List.append_nil] at hsz
  obtain ⟨dvs, hd⟩ := args_of_trod (base := base) hty hpos hA (fun j t v a b => hval j t v (by simpa using a) (by simpa using b)) (fun k hk => by simpa using List.all_eq_true.1 hsz k hk)
  have h1 := hsn W args.toList dvs [] (okAll W) (fun b hb => ⟨hb, by simp⟩) hg (by rw [hps]; exact hd) List.nodup_nil (by simp) (hpre dvs)
  refine h1.mono ?_
  rintro e W1 ⟨v, rfl, ha⟩
  refine ⟨v, rfl, ?_⟩
  rw [hps, hrs, hF] at ha
  exact law_post hl hvars hpar hres hb hW' hfn ha

end Go.Tm
end
