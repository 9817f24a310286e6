/-
  The pure machine, part 1 of 5: a general law that such code as this program's keeps to descriptions in plain Lean. It speaks of no program.
-/
import Derived.Orders
import Derived.Laws.AppendOwn
import Derived.Laws.BytesArg

/- (TmBase)
  The typed data of the pure machine, and what it means that the model's memory holds such data: shared ('Rep') or owned ('Own').
-/
section
namespace Go.Tm

inductive Ty where
  | int (k : IntKind) | bool | str | sl (e : Ty) | un | pr (a b : Ty)
  deriving DecidableEq

abbrev Ty.den : Ty → Type
  | .int _ => Int
  | .bool => Bool
  | .str => ByteArray
  | .sl e => List e.den
  | .un => Unit
  | .pr a b => a.den × b.den

def Ty.dflt : (t : Ty) → t.den
  | .int _ => (0 : Int)
  | .bool => false
  | .str => ByteArray.empty
  | .sl _ => []
  | .un => ()
  | .pr a b => (a.dflt, b.dflt)

def Ty.size : Ty → Nat
  | .un => 0
  | .pr a b => a.size + b.size
  | _ => 1

def Ty.agg : Ty → Bool
  | .un | .pr _ _ => true
  | _ => false

/-- No slices inside. -/
def Ty.flat : Ty → Bool
  | .sl _ => false
  | .pr a b => a.flat && b.flat
  | _ => true

/-- No slice of this many elements is ever made. -/
def lenMax : Nat := 140737488355328

/-- Data that memory can hold. -/
def Ty.wf : (t : Ty) → t.den → Prop
  | .int k, n => k.min ≤ n ∧ n ≤ k.max
  | .bool, _ => True
  | .str, s => s.size ≤ lenMax
  | .un, _ => True
  | .pr a b, x => a.wf x.1 ∧ b.wf x.2
  | .sl e, xs => xs.length ≤ lenMax ∧ ∀ x ∈ xs, e.wf x

theorem Ty.wf_dflt : ∀ (t : Ty), t.wf t.dflt
  | .int k => by cases k <;> (constructor <;> decide)
  | .bool => trivial
  | .str => Nat.zero_le _
  | .un => trivial
  | .pr a b => ⟨a.wf_dflt, b.wf_dflt⟩
  | .sl e => ⟨Nat.zero_le _, fun x hx => by simp [Ty.dflt] at hx⟩

def RowAt (w : World) (b o : Nat) (cs : List Value) : Prop :=
  ∀ j v, cs[j]? = some v → w.cell? ⟨b, o + j, none⟩ = some v

def Rep (w : World) (ok : Nat → Prop) : (t : Ty) → List Value → t.den → Prop
  | .int k, vs, n => vs = [.int k n] ∧ k.min ≤ n ∧ n ≤ k.max
  | .bool, vs, b => vs = [.bool b]
  | .str, vs, s => vs = [.string s] ∧ s.size ≤ lenMax
  | .un, vs, _ => vs = []
  | .pr a b, vs, x => ∃ v1 v2, vs = v1 ++ v2 ∧ Rep w ok a v1 x.1 ∧ Rep w ok b v2 x.2
  | .sl e, vs, xs => ∃ a cap, vs = [.slice a xs.length cap] ∧ xs.length ≤ cap ∧ xs.length ≤ lenMax ∧
      (xs ≠ [] → ∃ b o, a = some ⟨b, o, none⟩ ∧ ok b ∧
        ∀ i (h : i < xs.length), ∃ cs, RowAt w b (o + i * e.size) cs ∧ Rep w ok e cs xs[i])

/-- A slice of elements 'E', alone in its block (of which it is the head), or without memory. -/
def SlotR (w : World) (e : Ty) (E : List Value → e.den → List Nat → Prop) (h : Value) (xs : List e.den) (fp : List Nat) : Prop :=
  ∃ a cap, h = .slice a xs.length cap ∧ xs.length ≤ cap ∧ xs.length ≤ lenMax ∧
    ((cap = 0 ∧ fp = []) ∨
     ∃ (b : Nat) (cs : Array Value) (ety : TypeId) (fps : List (List Nat)), a = some ⟨b, 0, none⟩ ∧ w.heap[b]? = some (.cells cs ety (0, 0)) ∧ cs.size = cap * e.size ∧
       fps.length = xs.length ∧ fp = b :: fps.flatten ∧
       ∀ i (h : i < xs.length) (h' : i < fps.length), E ((cs.toList.drop (i * e.size)).take e.size) xs[i] fps[i])

/-- Owned data: with 'd' the slices inside are owned, too; without, they are shared. -/
def Own (w : World) (ok : Nat → Prop) (d : Bool) : (t : Ty) → List Value → t.den → List Nat → Prop
  | .int k, vs, n, fp => (vs = [.int k n] ∧ k.min ≤ n ∧ n ≤ k.max) ∧ fp = []
  | .bool, vs, b, fp => vs = [.bool b] ∧ fp = []
  | .str, vs, s, fp => (vs = [.string s] ∧ s.size ≤ lenMax) ∧ fp = []
  | .un, vs, _, fp => vs = [] ∧ fp = []
  | .pr a b, vs, x, fp => ∃ v1 v2 f1 f2, vs = v1 ++ v2 ∧ fp = f1 ++ f2 ∧ Own w ok d a v1 x.1 f1 ∧ Own w ok d b v2 x.2 f2
  | .sl e, vs, xs, fp => (d = true ∧ ∃ h, vs = [h] ∧ SlotR w e (fun cs x f => Own w ok d e cs x f) h xs fp) ∨
      (d = false ∧ Rep w ok (.sl e) vs xs ∧ fp = [])

theorem Rep.len {w : World} {ok : Nat → Prop} : ∀ {t : Ty} {vs : List Value} {x : t.den}, Rep w ok t vs x → vs.length = t.size
  | .int _, _, _, h => by rw [h.1]; rfl
  | .bool, _, _, h => by have h' := h; simp only [Rep] at h'; rw [h']; rfl
  | .str, _, _, h => by rw [h.1]; rfl
  | .un, _, _, h => by have h' := h; simp only [Rep] at h'; rw [h']; rfl
  | .pr a b, _, x, h => by
    obtain ⟨v1, v2, rfl, h1, h2⟩ := h
    rw [List.length_append, Rep.len h1, Rep.len h2]; rfl
  | .sl e, _, _, h => by obtain ⟨a, cap, rfl, _⟩ := h; rfl

theorem Own.len {w : World} {ok : Nat → Prop} {d : Bool} : ∀ {t : Ty} {vs : List Value} {x : t.den} {fp : List Nat}, Own w ok d t vs x fp → vs.length = t.size
  | .int _, _, _, _, h => by rw [h.1.1]; rfl
  | .bool, _, _, _, h => by rw [h.1]; rfl
  | .str, _, _, _, h => by rw [h.1.1]; rfl
  | .un, _, _, _, h => by rw [h.1]; rfl
  | .pr a b, _, x, _, h => by
    obtain ⟨v1, v2, f1, f2, rfl, _, h1, h2⟩ := h
    rw [List.length_append, Own.len h1, Own.len h2]; rfl
  | .sl e, _, _, _, h => by
    rcases h with ⟨_, h, rfl, _⟩ | ⟨_, h, _⟩
    · rfl
    · exact h.len

/-- Cells are the same wherever a block is the same. -/
theorem cell_same {w w' : World} {b o : Nat} (h : w'.heap[b]? = w.heap[b]?) : w'.cell? ⟨b, o, none⟩ = w.cell? ⟨b, o, none⟩ :=
  World.cell?_of_block (a := ⟨b, o, none⟩) h

theorem RowAt.same {w w' : World} {b o : Nat} {cs : List Value} (h : w'.heap[b]? = w.heap[b]?) (hr : RowAt w b o cs) : RowAt w' b o cs :=
  fun j v hj => (cell_same h).trans (hr j v hj)

theorem Rep.mono {w w' : World} {ok ok' : Nat → Prop} (hok : ∀ b, ok b → ok' b) (hs : ∀ b, ok b → w'.heap[b]? = w.heap[b]?) :
    ∀ {t : Ty} {vs : List Value} {x : t.den}, Rep w ok t vs x → Rep w' ok' t vs x
  | .int _, _, _, h => h
  | .bool, _, _, h => h
  | .str, _, _, h => h
  | .un, _, _, h => h
  | .pr a b, _, x, h => by
    obtain ⟨v1, v2, e, h1, h2⟩ := h
    exact ⟨v1, v2, e, Rep.mono hok hs h1, Rep.mono hok hs h2⟩
  | .sl e, _, _, h => by
    obtain ⟨a, cap, rfl, hc, hm, hx⟩ := h
    refine ⟨a, cap, rfl, hc, hm, fun hne => ?_⟩
    obtain ⟨b, o, ha, hb, hel⟩ := hx hne
    refine ⟨b, o, ha, hok b hb, fun i hi => ?_⟩
    obtain ⟨cs, hr, hre⟩ := hel i hi
    exact ⟨cs, hr.same (hs b hb), Rep.mono hok hs hre⟩

theorem SlotR.mono {w w' : World} {e : Ty} {E E' : List Value → e.den → List Nat → Prop} {h : Value} {xs : List e.den} {fp : List Nat}
    (hs : ∀ b ∈ fp, w'.heap[b]? = w.heap[b]?) (hE : ∀ cs x f, (∀ b ∈ f, b ∈ fp) → E cs x f → E' cs x f) (hh : SlotR w e E h xs fp) : SlotR w' e E' h xs fp := by
  obtain ⟨a, cap, rfl, hc, hm, hx⟩ := hh
  refine ⟨a, cap, rfl, hc, hm, ?_⟩
  rcases hx with hx | ⟨b, cs, ety, fps, ha, hb, hsz, hfl, rfl, hel⟩
  · exact .inl hx
  · refine .inr ⟨b, cs, ety, fps, ha, (hs b (by simp)).trans hb, hsz, hfl, rfl, fun i hi hi' => hE _ _ _ ?_ (hel i hi hi')⟩
    intro c hc
    exact List.mem_cons_of_mem _ (List.mem_flatten.2 ⟨_, List.getElem_mem hi', hc⟩)

theorem Own.mono {w w' : World} {ok ok' : Nat → Prop} {d : Bool} (hok : ∀ b, ok b → ok' b) (hs' : ∀ b, ok b → w'.heap[b]? = w.heap[b]?) :
    ∀ {t : Ty} {vs : List Value} {x : t.den} {fp : List Nat}, (∀ b ∈ fp, w'.heap[b]? = w.heap[b]?) →
    Own w ok d t vs x fp → Own w' ok' d t vs x fp
  | .int _, _, _, _, _, h => h
  | .bool, _, _, _, _, h => h
  | .str, _, _, _, _, h => h
  | .un, _, _, _, _, h => h
  | .pr a b, _, x, _, hs, h => by
    obtain ⟨v1, v2, f1, f2, e, rfl, h1, h2⟩ := h
    exact ⟨v1, v2, f1, f2, e, rfl, Own.mono hok hs' (fun b hb => hs b (by simp [hb])) h1, Own.mono hok hs' (fun b hb => hs b (by simp [hb])) h2⟩
  | .sl e, _, _, _, hs, h => by
    rcases h with ⟨hd, h, rfl, hh⟩ | ⟨hd, h, rfl⟩
    · exact .inl ⟨hd, h, rfl, hh.mono hs fun cs x f hf ho => Own.mono hok hs' (fun b hb => hs b (hf b hb)) ho⟩
    · exact .inr ⟨hd, h.mono hok hs', rfl⟩

theorem drop_take_get {α : Type} {l : List α} {a n j : Nat} {v : α} (h : ((l.drop a).take n)[j]? = some v) : l[a + j]? = some v := by
  rw [List.getElem?_take] at h
  split at h
  · rw [List.getElem?_drop] at h; exact h
  · cases h

theorem cell_of_block {w : World} {b o : Nat} {cs : Array Value} {ety : TypeId} {fr : Nat × Nat} (h : w.heap[b]? = some (.cells cs ety fr)) :
    w.cell? ⟨b, o, none⟩ = cs[o]? := by
  simp [World.cell?, h]

theorem RowAt.of_block {w : World} {b o n : Nat} {cs : Array Value} {ety : TypeId} {fr : Nat × Nat} (h : w.heap[b]? = some (.cells cs ety fr)) :
    RowAt w b o ((cs.toList.drop o).take n) := fun j v hj => by
  rw [cell_of_block h]; simpa using drop_take_get hj

theorem Rep.wf {w : World} {ok : Nat → Prop} : ∀ {t : Ty} {vs : List Value} {x : t.den}, Rep w ok t vs x → t.wf x
  | .int _, _, _, h => h.2
  | .bool, _, _, _ => trivial
  | .str, _, _, h => h.2
  | .un, _, _, _ => trivial
  | .pr a b, _, x, h => by
    obtain ⟨v1, v2, e, h1, h2⟩ := h
    exact ⟨h1.wf, h2.wf⟩
  | .sl e, _, xs, h => by
    obtain ⟨a, cap, rfl, hc, hm, hx⟩ := h
    refine ⟨hm, fun x hmem => ?_⟩
    have hne : xs ≠ [] := by rintro rfl; simp at hmem
    obtain ⟨b, o, ha, hb, hel⟩ := hx hne
    obtain ⟨i, hi, rfl⟩ := List.getElem_of_mem hmem
    obtain ⟨cs, hr, hre⟩ := hel i hi
    exact hre.wf

theorem Own.wf {w : World} {ok : Nat → Prop} {d : Bool} : ∀ {t : Ty} {vs : List Value} {x : t.den} {fp : List Nat}, Own w ok d t vs x fp → t.wf x
  | .int _, _, _, _, h => h.1.2
  | .bool, _, _, _, _ => trivial
  | .str, _, _, _, h => h.1.2
  | .un, _, _, _, _ => trivial
  | .pr a b, _, x, _, h => by
    obtain ⟨v1, v2, f1, f2, e, rfl, h1, h2⟩ := h
    exact ⟨Own.wf h1, Own.wf h2⟩
  | .sl e, _, xs, _, h => by
    rcases h with ⟨hd, h, rfl, a, cap, rfl, hc, hm, hx⟩ | ⟨_, h, rfl⟩
    · refine ⟨hm, fun x hmem => ?_⟩
      have hne : 0 < xs.length := List.length_pos_of_mem hmem
      rcases hx with ⟨h0, _⟩ | ⟨b, cs, ety, fps, ha, hb, hsz, hfl, rfl, hel⟩
      · omega
      · obtain ⟨i, hi, rfl⟩ := List.getElem_of_mem hmem
        exact Own.wf (hel i hi (by omega))
    · exact Rep.wf h

theorem Own.lt {w : World} {ok : Nat → Prop} {d : Bool} : ∀ {t : Ty} {vs : List Value} {x : t.den} {fp : List Nat}, Own w ok d t vs x fp → ∀ b ∈ fp, b < w.heap.size
  | .int _, _, _, _, h => by rw [h.2]; simp
  | .bool, _, _, _, h => by rw [h.2]; simp
  | .str, _, _, _, h => by rw [h.2]; simp
  | .un, _, _, _, h => by rw [h.2]; simp
  | .pr a b, _, x, _, h => by
    obtain ⟨v1, v2, f1, f2, e, rfl, h1, h2⟩ := h
    intro b hb
    rcases List.mem_append.1 hb with hb | hb
    · exact Own.lt h1 b hb
    · exact Own.lt h2 b hb
  | .sl e, _, _, _, h => by
    rcases h with ⟨hd, h, rfl, a, cap, rfl, hc, hm, hx⟩ | ⟨_, _, rfl⟩
    case inr => simp
    rcases hx with ⟨_, rfl⟩ | ⟨b, cs, ety, fps, ha, hb, hsz, hfl, rfl, hel⟩
    · simp
    · intro c hc
      rcases List.mem_cons.1 hc with rfl | hc
      · exact (Array.getElem?_eq_some_iff.1 hb).1
      · obtain ⟨f, hf, hcf⟩ := List.mem_flatten.1 hc
        obtain ⟨i, hi, rfl⟩ := List.getElem_of_mem hf
        exact Own.lt (hel i (by omega) hi) c hcf

theorem SlotR.lt {w : World} {ok : Nat → Prop} {d : Bool} {e : Ty} {h : Value} {xs : List e.den} {fp : List Nat}
    (hh : SlotR w e (fun cs x f => Own w ok d e cs x f) h xs fp) : ∀ b ∈ fp, b < w.heap.size := by
  obtain ⟨a, cap, rfl, hc, hm, hx⟩ := hh
  rcases hx with ⟨_, rfl⟩ | ⟨b, cs, ety, fps, ha, hb, hsz, hfl, rfl, hel⟩
  · simp
  · intro c hc
    rcases List.mem_cons.1 hc with rfl | hc
    · exact (Array.getElem?_eq_some_iff.1 hb).1
    · obtain ⟨f, hf, hcf⟩ := List.mem_flatten.1 hc
      obtain ⟨i, hi, rfl⟩ := List.getElem_of_mem hf
      exact Own.lt (hel i (by omega) hi) c hcf

theorem SlotR.rep_of {w : World} {ok : Nat → Prop} {e : Ty} {E : List Value → e.den → List Nat → Prop} {h : Value} {xs : List e.den} {fp : List Nat}
    (hh : SlotR w e E h xs fp) (hk : ∀ b ∈ fp, ok b) (hE : ∀ cs x f, (∀ b ∈ f, b ∈ fp) → E cs x f → Rep w ok e cs x) : Rep w ok (.sl e) [h] xs := by
  obtain ⟨a, cap, rfl, hc, hm, hx⟩ := hh
  refine ⟨a, cap, rfl, hc, hm, fun hne => ?_⟩
  rcases hx with ⟨h0, _⟩ | ⟨b, cs, ety, fps, ha, hb, hsz, hfl, rfl, hel⟩
  · exact absurd (List.eq_nil_of_length_eq_zero (by omega)) hne
  · refine ⟨b, 0, ha, hk b (by simp), fun i hi => ⟨_, ?_, hE _ _ _ (fun c hc => ?_) (hel i hi (by omega))⟩⟩
    · rw [Nat.zero_add]; exact RowAt.of_block hb
    · exact List.mem_cons_of_mem _ (List.mem_flatten.2 ⟨_, List.getElem_mem _, hc⟩)

theorem Own.rep {w : World} {ok ok' : Nat → Prop} {d : Bool} (hok : ∀ b, ok b → ok' b) : ∀ {t : Ty} {vs : List Value} {x : t.den} {fp : List Nat}, Own w ok d t vs x fp → (∀ b ∈ fp, ok' b) → Rep w ok' t vs x
  | .int _, _, _, _, h, _ => h.1
  | .bool, _, _, _, h, _ => h.1
  | .str, _, _, _, h, _ => h.1
  | .un, _, _, _, h, _ => h.1
  | .pr a b, _, x, _, h, hk => by
    obtain ⟨v1, v2, f1, f2, e, rfl, h1, h2⟩ := h
    exact ⟨v1, v2, e, Own.rep hok h1 (fun b hb => hk b (by simp [hb])), Own.rep hok h2 (fun b hb => hk b (by simp [hb]))⟩
  | .sl e, _, xs, _, h, hk => by
    rcases h with ⟨hd, h, rfl, hh⟩ | ⟨_, h, rfl⟩
    · exact hh.rep_of hk fun cs x f hf ho => Own.rep hok ho (fun b hb => hk b (hf b hb))
    · exact h.mono hok (fun _ _ => rfl)

/-- Data without slices is owned as it is read. -/
theorem Rep.own_flat {w : World} {ok ok' : Nat → Prop} {d : Bool} : ∀ {t : Ty} {vs : List Value} {x : t.den}, t.flat = true → Rep w ok t vs x → Own w ok' d t vs x []
  | .int _, _, _, _, h => ⟨h, rfl⟩
  | .bool, _, _, _, h => ⟨h, rfl⟩
  | .str, _, _, _, h => ⟨h, rfl⟩
  | .un, _, _, _, h => ⟨h, rfl⟩
  | .pr a b, _, x, hf, h => by
    obtain ⟨v1, v2, e, h1, h2⟩ := h
    simp only [Ty.flat, Bool.and_eq_true] at hf
    exact ⟨v1, v2, [], [], e, rfl, Rep.own_flat hf.1 h1, Rep.own_flat hf.2 h2⟩
  | .sl e, _, _, hf, _ => by simp [Ty.flat] at hf

/-- Shared data is 'owned' without depth. -/
theorem Rep.own_shared {w : World} {ok : Nat → Prop} : ∀ {t : Ty} {vs : List Value} {x : t.den}, Rep w ok t vs x → Own w ok false t vs x []
  | .int _, _, _, h => ⟨h, rfl⟩
  | .bool, _, _, h => ⟨h, rfl⟩
  | .str, _, _, h => ⟨h, rfl⟩
  | .un, _, _, h => ⟨h, rfl⟩
  | .pr a b, _, x, h => by
    obtain ⟨v1, v2, e, h1, h2⟩ := h
    exact ⟨v1, v2, [], [], e, rfl, h1.own_shared, h2.own_shared⟩
  | .sl e, _, _, h => .inr ⟨rfl, h, rfl⟩

theorem Own.flat_fp {w : World} {ok : Nat → Prop} {d : Bool} : ∀ {t : Ty} {vs : List Value} {x : t.den} {fp : List Nat}, t.flat = true → Own w ok d t vs x fp → fp = []
  | .int _, _, _, _, _, h => h.2
  | .bool, _, _, _, _, h => h.2
  | .str, _, _, _, _, h => h.2
  | .un, _, _, _, _, h => h.2
  | .pr a b, _, x, _, hf, h => by
    obtain ⟨v1, v2, f1, f2, e, rfl, h1, h2⟩ := h
    simp only [Ty.flat, Bool.and_eq_true] at hf
    rw [Own.flat_fp hf.1 h1, Own.flat_fp hf.2 h2]; rfl
  | .sl e, _, _, _, hf, _ => by simp [Ty.flat] at hf

theorem Own.shared_fp {w : World} {ok : Nat → Prop} : ∀ {t : Ty} {vs : List Value} {x : t.den} {fp : List Nat}, Own w ok false t vs x fp → fp = []
  | .int _, _, _, _, h => h.2
  | .bool, _, _, _, h => h.2
  | .str, _, _, _, h => h.2
  | .un, _, _, _, h => h.2
  | .pr a b, _, x, _, h => by
    obtain ⟨v1, v2, f1, f2, e, rfl, h1, h2⟩ := h
    rw [Own.shared_fp h1, Own.shared_fp h2]; rfl
  | .sl e, _, _, _, h => by
    rcases h with ⟨hd, _⟩ | ⟨_, _, rfl⟩
    · cases hd
    · rfl

end Go.Tm
end

/- (TmState)
  The registers' values, the objects (boxes and slots) of the pure machine, and what it means that the model's memory holds them.
-/
section
namespace Go.Tm

inductive Step where
  | l | r | ix (i : Nat)
  deriving DecidableEq

/-- What a register (or a part of a box) holds. -/
inductive RV where
  | v (t : Ty) (x : t.den)                                             -- plain or shared data
  | nl (e : Ty)                                                        -- a slice without length and capacity
  | rf (s : Nat) (e : Ty) (n : Nat)                                    -- the slice of slot s, n long
  | vw (s : Nat) (p : Option (List Step)) (t : Ty) (x : t.den)         -- data read out of slot s (at path p)
  | bi (o : Nat) (p : List Bool)                                       -- a pointer into box o
  | ptr (s : Nat) (p : List Step)                                      -- a pointer into slot s
  | pv (t : Ty) (x : t.den)                                            -- a pointer to shared data
  | fn (f : FuncId) (caps : List Nat)                                  -- a function value that has captured boxes
  | dd (t : Ty)                                                        -- not to be read any more
  | pr (a b : RV) | un
  | tp (a : RV)                                                        -- several results

inductive Ob where
  | box (t : Ty) (c : RV)
  | slot (e : Ty) (d : Bool) (xs : List e.den)

def RV.size : RV → Nat
  | .v t _ => t.size
  | .vw _ _ t _ => t.size
  | .dd t => t.size
  | .pr a b => a.size + b.size
  | .un => 0
  | _ => 1

def RV.agg : RV → Bool
  | .v t _ => t.agg
  | .vw _ _ t _ => t.agg
  | .dd t => t.agg
  | .pr _ _ => true
  | .un => true
  | _ => false

def RV.fits : RV → Ty → Bool
  | .v t _, u => decide (t = u)
  | .nl e, u => decide (Ty.sl e = u)
  | .rf _ e _, u => decide (Ty.sl e = u)
  | .vw _ _ t _, u => decide (t = u)
  | .dd t, u => decide (t = u)
  | .pr a b, .pr x y => a.fits x && b.fits y
  | .un, .un => true
  | _, _ => false

def RV.ids : RV → List Nat
  | .rf s _ _ => [s]
  | .vw s _ _ _ => [s]
  | .bi o _ => [o]
  | .ptr s _ => [s]
  | .fn _ caps => caps
  | .pr a b => a.ids ++ b.ids
  | .tp a => a.ids
  | _ => []

def Step.isIx : Step → Bool
  | .ix _ => true
  | _ => false

/-- Does the path lead through a slice inside? -/
def deepPath : List Step → Bool
  | [] => false
  | _ :: p => p.any Step.isIx

/-- The slots whose memory the meaning of a value depends on. -/
def RV.reads : RV → List Nat
  | .vw s _ _ _ => [s]
  | .ptr s p => if deepPath p then [s] else []
  | .pr a b => a.reads ++ b.reads
  | .tp a => a.reads
  | _ => []

/-- Where a path leads to in memory, from data at (b, o); each slice on the way lies in the blocks F. -/
def addrIn (w : World) (F : List Nat) : Ty → Nat → Nat → List Step → Option (Ty × Nat × Nat)
  | t, b, o, [] => some (t, b, o)
  | .pr x _, b, o, .l :: p => addrIn w F x b o p
  | .pr x y, b, o, .r :: p => addrIn w F y b (o + x.size) p
  | .sl e, b, o, .ix i :: p =>
    match w.cell? ⟨b, o, none⟩ with
    | some (.slice (some ⟨b', o', none⟩) len _) => if i < len ∧ b' ∈ F then addrIn w F e b' (o' + i * e.size) p else none
    | _ => none
  | _, _, _, _ => none

def addrH (w : World) (F : List Nat) (e : Ty) (h : Value) : List Step → Option (Ty × Nat × Nat)
  | .ix i :: p =>
    match h with
    | .slice (some ⟨b', o', none⟩) len _ => if i < len ∧ b' ∈ F then addrIn w F e b' (o' + i * e.size) p else none
    | _ => none
  | _ => none

def Ty.offB : Ty → List Bool → Option (Ty × Nat)
  | t, [] => some (t, 0)
  | .pr x _, false :: p => x.offB p
  | .pr x y, true :: p => (y.offB p).map fun r => (r.1, x.size + r.2)
  | _, _ :: _ => none

structure Env where
  w : World
  ok : Nat → Prop
  hdr : Nat → Value
  fp : Nat → List Nat
  bx : Nat → Nat
  ob : Nat → Option Ob

def CR (E : Env) : RV → List Value → Prop
  | .v t x, vs => Rep E.w E.ok t vs x
  | .nl _, vs => ∃ a, vs = [.slice a 0 0]
  | .rf s e n, vs => vs = [E.hdr s] ∧ ∃ d xs, E.ob s = some (.slot e d xs) ∧ xs.length = n
  | .vw s p t x, vs => Rep E.w (fun b => E.ok b ∨ b ∈ E.fp s) t vs x ∧ (∃ e d xs, E.ob s = some (.slot e d xs)) ∧
      ∀ q, p = some q → ∃ e d xs b o, E.ob s = some (.slot e d xs) ∧ addrH E.w (E.fp s) e (E.hdr s) q = some (t, b, o) ∧ RowAt E.w b o vs
  | .bi o p, vs => ∃ t c t' k, E.ob o = some (.box t c) ∧ t.offB p = some (t', k) ∧ vs = [.pointer (some ⟨E.bx o, k, none⟩)]
  | .ptr s p, vs => ∃ e d xs t b o, E.ob s = some (.slot e d xs) ∧ addrH E.w (E.fp s) e (E.hdr s) p = some (t, b, o) ∧ vs = [.pointer (some ⟨b, o, none⟩)]
  | .pv t x, vs => ∃ b o cs, vs = [.pointer (some ⟨b, o, none⟩)] ∧ E.ok b ∧ RowAt E.w b o cs ∧ Rep E.w E.ok t cs x
  | .fn f caps, vs => vs = [.func (.func f) #[] (caps.map fun o => Value.pointer (some ⟨E.bx o, 0, none⟩)).toArray] ∧ ∀ o ∈ caps, ∃ t c, E.ob o = some (.box t c)
  | .dd t, vs => vs.length = t.size
  | .pr a b, vs => ∃ v1 v2, vs = v1 ++ v2 ∧ CR E a v1 ∧ CR E b v2
  | .un, vs => vs = []
  | .tp _, _ => False

/-- One value in a register. -/
def VR1 (E : Env) (rv : RV) (v : Value) : Prop := ∃ vs, CR E rv vs ∧ if rv.agg then v = .agg vs.toArray else vs = [v]

def TR (E : Env) : RV → List Value → Prop
  | .un, vs => vs = []
  | .pr a b, vs => ∃ v rest, vs = v :: rest ∧ VR1 E a v ∧ TR E b rest
  | _, _ => False

def VR (E : Env) : RV → Value → Prop
  | .tp a, v => ∃ vs, v = .tuple vs.toArray ∧ TR E a vs
  | rv, v => VR1 E rv v

def ObR (E : Env) (o : Nat) : Ob → Prop
  | .box t c => c.fits t = true ∧ ∃ cs ety, E.w.heap[E.bx o]? = some (.cells cs ety (0, 0)) ∧ CR E c cs.toList
  | .slot e d xs => 0 < e.size ∧ SlotR E.w e (fun cs x f => Own E.w E.ok d e cs x f) (E.hdr o) xs (E.fp o)

theorem CR.len {E : Env} : ∀ {rv : RV} {vs : List Value}, CR E rv vs → vs.length = rv.size
  | .v _ _, _, h => Rep.len h
  | .nl _, _, h => by obtain ⟨a, rfl⟩ := h; rfl
  | .rf _ _ _, _, h => by rw [h.1]; rfl
  | .vw _ _ _ _, _, h => Rep.len h.1
  | .bi _ _, _, h => by obtain ⟨_, _, _, _, _, _, rfl⟩ := h; rfl
  | .ptr _ _, _, h => by obtain ⟨_, _, _, _, _, _, _, _, rfl⟩ := h; rfl
  | .pv _ _, _, h => by obtain ⟨_, _, _, rfl, _⟩ := h; rfl
  | .fn _ _, _, h => by rw [h.1]; rfl
  | .dd _, _, h => h
  | .pr a b, _, h => by
    obtain ⟨v1, v2, rfl, h1, h2⟩ := h
    rw [List.length_append, CR.len h1, CR.len h2]; rfl
  | .un, _, h => by have h' := h; simp only [CR] at h'; rw [h']; rfl
  | .tp _, _, h => h.elim

theorem addrIn.same {w w' : World} {F : List Nat} (hs : ∀ b ∈ F, w'.heap[b]? = w.heap[b]?) : ∀ (p : List Step) (t : Ty) (b o : Nat), b ∈ F → addrIn w' F t b o p = addrIn w F t b o p
  | [], t, b, o, _ => by unfold addrIn; rfl
  | .l :: p, t, b, o, hb => by
    cases t <;> simp only [addrIn]
    exact addrIn.same hs p _ _ _ hb
  | .r :: p, t, b, o, hb => by
    cases t <;> simp only [addrIn]
    exact addrIn.same hs p _ _ _ hb
  | .ix i :: p, t, b, o, hb => by
    cases t <;> simp only [addrIn]
    rw [cell_same (hs b hb)]
    split
    · split
      · rename_i h; exact addrIn.same hs p _ _ _ h.2
      · rfl
    · rfl

theorem addrH.same {w w' : World} {F : List Nat} (hs : ∀ b ∈ F, w'.heap[b]? = w.heap[b]?) (e : Ty) (h : Value) (p : List Step) : addrH w' F e h p = addrH w F e h p := by
  unfold addrH
  split
  · split
    · split
      · rename_i hh; exact addrIn.same hs _ _ _ _ hh.2
      · rfl
    · rfl
  · rfl

theorem addrIn.flatPath {w w' : World} {F : List Nat} : ∀ (p : List Step), p.any Step.isIx = false → ∀ (t : Ty) (b o : Nat), addrIn w' F t b o p = addrIn w F t b o p
  | [], _, t, b, o => by unfold addrIn; rfl
  | .l :: p, hp, t, b, o => by
    cases t <;> simp only [addrIn]
    exact addrIn.flatPath p (by simpa [Step.isIx] using hp) _ _ _
  | .r :: p, hp, t, b, o => by
    cases t <;> simp only [addrIn]
    exact addrIn.flatPath p (by simpa [Step.isIx] using hp) _ _ _
  | .ix i :: p, hp, t, b, o => by simp [Step.isIx] at hp

theorem addrH.flatPath {w w' : World} {F : List Nat} {p : List Step} (hp : deepPath p = false) (e : Ty) (h : Value) : addrH w' F e h p = addrH w F e h p := by
  unfold addrH
  split
  · split
    · split
      · exact addrIn.flatPath _ (by simpa [deepPath] using hp) _ _ _
      · rfl
    · rfl
  · rfl

/-- Object m means the same in both. -/
structure SameOb (E E' : Env) (m : Nat) : Prop where
  hdr : E'.hdr m = E.hdr m
  fp : E'.fp m = E.fp m
  bx : E'.bx m = E.bx m
  slot : ∀ e d xs, E.ob m = some (.slot e d xs) → ∃ d' xs', E'.ob m = some (.slot e d' xs') ∧ xs'.length = xs.length
  box : ∀ t c, E.ob m = some (.box t c) → ∃ c', E'.ob m = some (.box t c')

theorem SameOb.refl (E : Env) (m : Nat) : SameOb E E m := ⟨rfl, rfl, rfl, fun _ _ xs h => ⟨_, xs, h, rfl⟩, fun _ c h => ⟨c, h⟩⟩

theorem CR.mono {E E' : Env} (hok : ∀ b, E.ok b → E'.ok b) (hs : ∀ b, E.ok b → E'.w.heap[b]? = E.w.heap[b]?) :
    ∀ {rv : RV} {vs : List Value}, (∀ m ∈ rv.ids, SameOb E E' m) → (∀ m ∈ rv.reads, ∀ b ∈ E.fp m, E'.w.heap[b]? = E.w.heap[b]?) → CR E rv vs → CR E' rv vs
  | .v _ _, _, _, _, h => Rep.mono hok hs h
  | .nl _, _, _, _, h => h
  | .rf s e n, _, hi, _, h => by
    obtain ⟨rfl, d, xs, ho, hn⟩ := h
    have hm := hi s (by simp [RV.ids])
    obtain ⟨d', xs', ho', hl⟩ := hm.slot _ _ _ ho
    exact ⟨by rw [hm.hdr], d', xs', ho', hl.trans hn⟩
  | .vw s p t x, _, hi, hr, h => by
    obtain ⟨h, ⟨e, d, xs, ho⟩, hq⟩ := h
    have hm := hi s (by simp [RV.ids])
    have hf := hr s (by simp [RV.reads])
    have hall : ∀ b, (E.ok b ∨ b ∈ E.fp s) → E'.w.heap[b]? = E.w.heap[b]? := fun b hb => hb.elim (hs b) (hf b)
    obtain ⟨d', xs', ho', _⟩ := hm.slot _ _ _ ho
    refine ⟨h.mono (fun b hb => by rw [hm.fp]; exact hb.imp (hok b) id) hall, ⟨e, d', xs', ho'⟩, fun q hq' => ?_⟩
    obtain ⟨e, d, xs, b, o, ho, ha, hrow⟩ := hq q hq'
    obtain ⟨d', xs', ho', _⟩ := hm.slot _ _ _ ho
    refine ⟨e, d', xs', b, o, ho', ?_, ?_⟩
    · rw [hm.fp, hm.hdr, addrH.same hf]; exact ha
    · have hb : b ∈ E.fp s := by
        clear hrow hq' hq ho' ho h
        revert ha
        have key : ∀ (p : List Step) (t0 : Ty) (b0 o0 : Nat), b0 ∈ E.fp s → addrIn E.w (E.fp s) t0 b0 o0 p = some (t, b, o) → b ∈ E.fp s := by
          intro p
          induction p with
          | nil => intro t0 b0 o0 hb0 h; unfold addrIn at h; simp only [Option.some.injEq, Prod.mk.injEq] at h; rw [← h.2.1]; exact hb0
          | cons st p ih =>
            intro t0 b0 o0 hb0 h
            cases st <;> cases t0 <;> simp only [addrIn] at h <;> try (first | exact ih _ _ _ hb0 h | cases h)
            split at h
            · split at h
              · rename_i hh; exact ih _ _ _ hh.2 h
              · cases h
            · cases h
        unfold addrH
        split
        · split
          · split
            · rename_i hh; exact key _ _ _ _ hh.2
            · intro h; cases h
          · intro h; cases h
        · intro h; cases h
      exact hrow.same (hf b hb)
  | .bi o p, _, hi, _, h => by
    obtain ⟨t, c, t', k, ho, hp, rfl⟩ := h
    have hm := hi o (by simp [RV.ids])
    obtain ⟨c', ho'⟩ := hm.box _ _ ho
    exact ⟨t, c', t', k, ho', hp, by rw [hm.bx]⟩
  | .ptr s p, _, hi, hr, h => by
    obtain ⟨e, d, xs, t, b, o, ho, ha, rfl⟩ := h
    have hm := hi s (by simp [RV.ids])
    obtain ⟨d', xs', ho', _⟩ := hm.slot _ _ _ ho
    refine ⟨e, d', xs', t, b, o, ho', ?_, rfl⟩
    rw [hm.fp, hm.hdr]
    cases hp : deepPath p with
    | true => rw [addrH.same (hr s (by simp [RV.reads, hp]))]; exact ha
    | false => rw [addrH.flatPath (w := E.w) hp]; exact ha
  | .pv t x, _, _, _, h => by
    obtain ⟨b, o, cs, rfl, hb, hr, hre⟩ := h
    exact ⟨b, o, cs, rfl, hok b hb, hr.same (hs b hb), hre.mono hok hs⟩
  | .fn f caps, _, hi, _, h => by
    obtain ⟨rfl, hc⟩ := h
    refine ⟨?_, fun o ho => ?_⟩
    · congr 2
      congr 1
      apply List.map_congr_left
      intro o ho
      rw [(hi o (by simpa [RV.ids] using ho)).bx]
    · obtain ⟨t, c, h⟩ := hc o ho
      obtain ⟨c', h'⟩ := (hi o (by simpa [RV.ids] using ho)).box _ _ h
      exact ⟨t, c', h'⟩
  | .dd _, _, _, _, h => h
  | .pr a b, _, hi, hr, h => by
    obtain ⟨v1, v2, rfl, h1, h2⟩ := h
    exact ⟨v1, v2, rfl, CR.mono hok hs (fun m hm => hi m (by simp [RV.ids, hm])) (fun m hm => hr m (by simp [RV.reads, hm])) h1,
      CR.mono hok hs (fun m hm => hi m (by simp [RV.ids, hm])) (fun m hm => hr m (by simp [RV.reads, hm])) h2⟩
  | .un, _, _, _, h => h
  | .tp _, _, _, _, h => h.elim

theorem VR1.mono {E E' : Env} (hok : ∀ b, E.ok b → E'.ok b) (hs : ∀ b, E.ok b → E'.w.heap[b]? = E.w.heap[b]?) {rv : RV} {v : Value}
    (hi : ∀ m ∈ rv.ids, SameOb E E' m) (hr : ∀ m ∈ rv.reads, ∀ b ∈ E.fp m, E'.w.heap[b]? = E.w.heap[b]?) (h : VR1 E rv v) : VR1 E' rv v :=
  let ⟨vs, h1, h2⟩ := h; ⟨vs, h1.mono hok hs hi hr, h2⟩

theorem TR.mono {E E' : Env} (hok : ∀ b, E.ok b → E'.ok b) (hs : ∀ b, E.ok b → E'.w.heap[b]? = E.w.heap[b]?) :
    ∀ {rv : RV} {vs : List Value}, (∀ m ∈ rv.ids, SameOb E E' m) → (∀ m ∈ rv.reads, ∀ b ∈ E.fp m, E'.w.heap[b]? = E.w.heap[b]?) → TR E rv vs → TR E' rv vs
  | .un, _, _, _, h => h
  | .pr a b, _, hi, hr, h => by
    obtain ⟨v, rest, rfl, h1, h2⟩ := h
    exact ⟨v, rest, rfl, h1.mono hok hs (fun m hm => hi m (by simp [RV.ids, hm])) (fun m hm => hr m (by simp [RV.reads, hm])),
      TR.mono hok hs (fun m hm => hi m (by simp [RV.ids, hm])) (fun m hm => hr m (by simp [RV.reads, hm])) h2⟩
  | .v .., _, _, _, h | .nl .., _, _, _, h | .rf .., _, _, _, h | .vw .., _, _, _, h | .bi .., _, _, _, h | .ptr .., _, _, _, h | .pv .., _, _, _, h | .fn .., _, _, _, h | .dd .., _, _, _, h | .tp .., _, _, _, h => h.elim

theorem VR.mono {E E' : Env} (hok : ∀ b, E.ok b → E'.ok b) (hs : ∀ b, E.ok b → E'.w.heap[b]? = E.w.heap[b]?) {rv : RV} {v : Value}
    (hi : ∀ m ∈ rv.ids, SameOb E E' m) (hr : ∀ m ∈ rv.reads, ∀ b ∈ E.fp m, E'.w.heap[b]? = E.w.heap[b]?) (h : VR E rv v) : VR E' rv v := by
  cases rv with
  | tp a =>
    obtain ⟨vs, rfl, ht⟩ := h
    exact ⟨vs, rfl, ht.mono hok hs (by simpa [RV.ids] using hi) (by simpa [RV.reads] using hr)⟩
  | _ => exact VR1.mono hok hs hi hr h

theorem CR.reads_ob {E : Env} : ∀ {rv : RV} {vs : List Value}, CR E rv vs → ∀ m ∈ rv.reads, ∃ e d xs, E.ob m = some (.slot e d xs)
  | .vw s p t x, _, h, m, hm => by
    simp only [RV.reads, List.mem_singleton] at hm; subst hm
    exact h.2.1
  | .ptr s p, _, h, m, hm => by
    obtain ⟨e, d, xs, _, _, _, ho, _⟩ := h
    simp only [RV.reads] at hm
    split at hm
    · simp only [List.mem_singleton] at hm; subst hm; exact ⟨e, d, xs, ho⟩
    · cases hm
  | .pr a b, _, h, m, hm => by
    obtain ⟨v1, v2, rfl, h1, h2⟩ := h
    simp only [RV.reads, List.mem_append] at hm
    rcases hm with hm | hm
    · exact CR.reads_ob h1 m hm
    · exact CR.reads_ob h2 m hm
  | .tp _, _, h, _, _ => h.elim
  | .v .., _, _, _, hm | .nl .., _, _, _, hm | .rf .., _, _, _, hm | .bi .., _, _, _, hm | .pv .., _, _, _, hm | .fn .., _, _, _, hm | .dd .., _, _, _, hm | .un, _, _, _, hm => by simp [RV.reads] at hm

theorem TR.reads_ob {E : Env} : ∀ {rv : RV} {vs : List Value}, TR E rv vs → ∀ m ∈ rv.reads, ∃ e d xs, E.ob m = some (.slot e d xs)
  | .un, _, _, m, hm => by simp [RV.reads] at hm
  | .pr a b, _, h, m, hm => by
    obtain ⟨v, rest, rfl, ⟨vs, h1, _⟩, h2⟩ := h
    simp only [RV.reads, List.mem_append] at hm
    rcases hm with hm | hm
    · exact h1.reads_ob m hm
    · exact TR.reads_ob h2 m hm
  | .v .., _, h, _, _ | .nl .., _, h, _, _ | .rf .., _, h, _, _ | .vw .., _, h, _, _ | .bi .., _, h, _, _ | .ptr .., _, h, _, _ | .pv .., _, h, _, _ | .fn .., _, h, _, _ | .dd .., _, h, _, _ | .tp .., _, h, _, _ => h.elim

theorem VR.reads_ob {E : Env} {rv : RV} {v : Value} (h : VR E rv v) : ∀ m ∈ rv.reads, ∃ e d xs, E.ob m = some (.slot e d xs) := by
  cases rv with
  | tp a => obtain ⟨vs, _, ht⟩ := h; exact fun m hm => ht.reads_ob m (by simpa [RV.reads] using hm)
  | _ => obtain ⟨vs, hc, _⟩ := h; exact fun m hm => hc.reads_ob m hm

end Go.Tm
end

/- (TmData)
  The operations on data, shut: what they are is told by the equations '.._eq'.
-/
section
namespace Go.Tm

theorem shut {α : Sort _} (a : α) : ∃ f, f = a := ⟨a, rfl⟩

abbrev inR (i : Int) (n : Nat) : Prop := 0 ≤ i ∧ i < (n : Int)
abbrev cut2 (a b : Int) (n : Nat) : Prop := 0 ≤ a ∧ a ≤ b ∧ b ≤ (n : Int)
abbrev roomOk (n : Nat) (e : Ty) : Prop := n * (32 * e.size) ≤ lenMax

def Ty.eqv : (t : Ty) → t.den → t.den → Bool
  | .int _, x, y => decide ((x : Int) = y)
  | .bool, x, y => (x : Bool) == y
  | .str, x, y => (x : ByteArray).toList == (y : ByteArray).toList
  | .un, _, _ => true
  | .pr a b, x, y => a.eqv x.1 y.1 && b.eqv x.2 y.2
  | .sl _, _, _ => false

theorem choice_is {α : Sort _} {a : α} (h : Nonempty {f : α // f = a}) : (Classical.choice h).1 = a := (Classical.choice h).2

namespace D
noncomputable def add : IntKind → Int → Int → Int := Classical.choose (shut (fun k a b => k.wrap (a + b) : IntKind → Int → Int → Int))
theorem add_eq : add = (fun k a b => k.wrap (a + b) : IntKind → Int → Int → Int) := Classical.choose_spec (shut _)
noncomputable def sub : IntKind → Int → Int → Int := Classical.choose (shut (fun k a b => k.wrap (a - b) : IntKind → Int → Int → Int))
theorem sub_eq : sub = (fun k a b => k.wrap (a - b) : IntKind → Int → Int → Int) := Classical.choose_spec (shut _)
noncomputable def mul : IntKind → Int → Int → Int := Classical.choose (shut (fun k a b => k.wrap (a * b) : IntKind → Int → Int → Int))
theorem mul_eq : mul = (fun k a b => k.wrap (a * b) : IntKind → Int → Int → Int) := Classical.choose_spec (shut _)
noncomputable def quo : IntKind → Int → Int → Int := Classical.choose (shut (fun k a b => k.wrap (a.tdiv b) : IntKind → Int → Int → Int))
theorem quo_eq : quo = (fun k a b => k.wrap (a.tdiv b) : IntKind → Int → Int → Int) := Classical.choose_spec (shut _)
noncomputable def rem : Int → Int → Int := Classical.choose (shut (fun a b => a.tmod b : Int → Int → Int))
theorem rem_eq : rem = (fun a b => a.tmod b : Int → Int → Int) := Classical.choose_spec (shut _)
noncomputable def band : IntKind → Int → Int → Int := Classical.choose (shut (fun k a b => k.wrap ((BitVec.ofInt k.bits a &&& BitVec.ofInt k.bits b).toNat) : IntKind → Int → Int → Int))
theorem band_eq : band = (fun k a b => k.wrap ((BitVec.ofInt k.bits a &&& BitVec.ofInt k.bits b).toNat) : IntKind → Int → Int → Int) := Classical.choose_spec (shut _)
noncomputable def bor : IntKind → Int → Int → Int := Classical.choose (shut (fun k a b => k.wrap ((BitVec.ofInt k.bits a ||| BitVec.ofInt k.bits b).toNat) : IntKind → Int → Int → Int))
theorem bor_eq : bor = (fun k a b => k.wrap ((BitVec.ofInt k.bits a ||| BitVec.ofInt k.bits b).toNat) : IntKind → Int → Int → Int) := Classical.choose_spec (shut _)
noncomputable def bxor : IntKind → Int → Int → Int := Classical.choose (shut (fun k a b => k.wrap ((BitVec.ofInt k.bits a ^^^ BitVec.ofInt k.bits b).toNat) : IntKind → Int → Int → Int))
theorem bxor_eq : bxor = (fun k a b => k.wrap ((BitVec.ofInt k.bits a ^^^ BitVec.ofInt k.bits b).toNat) : IntKind → Int → Int → Int) := Classical.choose_spec (shut _)
noncomputable def shl : IntKind → Int → Int → Int := Classical.choose (shut (fun k a b => k.wrap (a * 2 ^ (Min.min b.toNat k.bits)) : IntKind → Int → Int → Int))
theorem shl_eq : shl = (fun k a b => k.wrap (a * 2 ^ (Min.min b.toNat k.bits)) : IntKind → Int → Int → Int) := Classical.choose_spec (shut _)
noncomputable def shr : IntKind → Int → Int → Int := Classical.choose (shut (fun k a b => a.fdiv (2 ^ (Min.min b.toNat k.bits)) : IntKind → Int → Int → Int))
theorem shr_eq : shr = (fun k a b => a.fdiv (2 ^ (Min.min b.toNat k.bits)) : IntKind → Int → Int → Int) := Classical.choose_spec (shut _)
noncomputable def neg : IntKind → Int → Int := Classical.choose (shut (fun k a => k.wrap (0 - a) : IntKind → Int → Int))
theorem neg_eq : neg = (fun k a => k.wrap (0 - a) : IntKind → Int → Int) := Classical.choose_spec (shut _)
noncomputable def wrap : IntKind → Int → Int := Classical.choose (shut (fun k a => k.wrap a : IntKind → Int → Int))
theorem wrap_eq : wrap = (fun k a => k.wrap a : IntKind → Int → Int) := Classical.choose_spec (shut _)
noncomputable def eq : Int → Int → Bool := Classical.choose (shut (fun a b => decide (a = b) : Int → Int → Bool))
theorem eq_eq : eq = (fun a b => decide (a = b) : Int → Int → Bool) := Classical.choose_spec (shut _)
noncomputable def ne : Int → Int → Bool := Classical.choose (shut (fun a b => !decide (a = b) : Int → Int → Bool))
theorem ne_eq : ne = (fun a b => !decide (a = b) : Int → Int → Bool) := Classical.choose_spec (shut _)
noncomputable def lt : Int → Int → Bool := Classical.choose (shut (fun a b => decide (a < b) : Int → Int → Bool))
theorem lt_eq : lt = (fun a b => decide (a < b) : Int → Int → Bool) := Classical.choose_spec (shut _)
noncomputable def le : Int → Int → Bool := Classical.choose (shut (fun a b => decide (a ≤ b) : Int → Int → Bool))
theorem le_eq : le = (fun a b => decide (a ≤ b) : Int → Int → Bool) := Classical.choose_spec (shut _)
noncomputable def max : Int → Int → Int := Classical.choose (shut (fun a b => if b > a then b else a : Int → Int → Int))
theorem max_eq : max = (fun a b => if b > a then b else a : Int → Int → Int) := Classical.choose_spec (shut _)
noncomputable def min : Int → Int → Int := Classical.choose (shut (fun a b => if b < a then b else a : Int → Int → Int))
theorem min_eq : min = (fun a b => if b < a then b else a : Int → Int → Int) := Classical.choose_spec (shut _)
noncomputable def nz : Int → Prop := Classical.choose (shut (fun b => b ≠ 0 : Int → Prop))
theorem nz_eq : nz = (fun b => b ≠ 0 : Int → Prop) := Classical.choose_spec (shut _)
noncomputable def nn : Int → Prop := Classical.choose (shut (fun b => 0 ≤ b : Int → Prop))
theorem nn_eq : nn = (fun b => 0 ≤ b : Int → Prop) := Classical.choose_spec (shut _)
noncomputable def not : Bool → Bool := Classical.choose (shut (fun b => !b : Bool → Bool))
theorem not_eq : not = (fun b => !b : Bool → Bool) := Classical.choose_spec (shut _)
noncomputable def beq : Bool → Bool → Bool := Classical.choose (shut (fun a b => a == b : Bool → Bool → Bool))
theorem beq_eq : beq = (fun a b => a == b : Bool → Bool → Bool) := Classical.choose_spec (shut _)
noncomputable def bne : Bool → Bool → Bool := Classical.choose (shut (fun a b => !(a == b) : Bool → Bool → Bool))
theorem bne_eq : bne = (fun a b => !(a == b) : Bool → Bool → Bool) := Classical.choose_spec (shut _)
noncomputable def sapp : ByteArray → ByteArray → ByteArray := Classical.choose (shut (fun a b => a ++ b : ByteArray → ByteArray → ByteArray))
theorem sapp_eq : sapp = (fun a b => a ++ b : ByteArray → ByteArray → ByteArray) := Classical.choose_spec (shut _)
noncomputable def sroom : ByteArray → ByteArray → Prop := Classical.choose (shut (fun a b => a.size + b.size ≤ lenMax : ByteArray → ByteArray → Prop))
theorem sroom_eq : sroom = (fun a b => a.size + b.size ≤ lenMax : ByteArray → ByteArray → Prop) := Classical.choose_spec (shut _)
noncomputable def seq : ByteArray → ByteArray → Bool := Classical.choose (shut (fun a b => a.toList == b.toList : ByteArray → ByteArray → Bool))
theorem seq_eq : seq = (fun a b => a.toList == b.toList : ByteArray → ByteArray → Bool) := Classical.choose_spec (shut _)
noncomputable def sne : ByteArray → ByteArray → Bool := Classical.choose (shut (fun a b => !(a.toList == b.toList) : ByteArray → ByteArray → Bool))
theorem sne_eq : sne = (fun a b => !(a.toList == b.toList) : ByteArray → ByteArray → Bool) := Classical.choose_spec (shut _)
noncomputable def slt : ByteArray → ByteArray → Bool := Classical.choose (shut (fun a b => Op.bytesLess a.toList b.toList : ByteArray → ByteArray → Bool))
theorem slt_eq : slt = (fun a b => Op.bytesLess a.toList b.toList : ByteArray → ByteArray → Bool) := Classical.choose_spec (shut _)
noncomputable def slen : ByteArray → Int := Classical.choose (shut (fun s => (s.size : Int) : ByteArray → Int))
theorem slen_eq : slen = (fun s => (s.size : Int) : ByteArray → Int) := Classical.choose_spec (shut _)
noncomputable def scnt : ByteArray → Nat := Classical.choose (shut (fun s => s.size : ByteArray → Nat))
theorem scnt_eq : scnt = (fun s => s.size : ByteArray → Nat) := Classical.choose_spec (shut _)
noncomputable def ssub : ByteArray → Int → Int → ByteArray := Classical.choose (shut (fun s a b => s.extract a.toNat b.toNat : ByteArray → Int → Int → ByteArray))
theorem ssub_eq : ssub = (fun s a b => s.extract a.toNat b.toNat : ByteArray → Int → Int → ByteArray) := Classical.choose_spec (shut _)
noncomputable def sat : ByteArray → Int → Int := Classical.choose (shut (fun s i => ((s.data.toList.getD i.toNat 0).toNat : Int) : ByteArray → Int → Int))
theorem sat_eq : sat = (fun s i => ((s.data.toList.getD i.toNat 0).toNat : Int) : ByteArray → Int → Int) := Classical.choose_spec (shut _)
noncomputable def int : Nat → Int := Classical.choose (shut (fun n => (n : Int) : Nat → Int))
theorem int_eq : int = (fun n => (n : Int) : Nat → Int) := Classical.choose_spec (shut _)
noncomputable def nat : Int → Nat := Classical.choose (shut (fun i => i.toNat : Int → Nat))
theorem nat_eq : nat = (fun i => i.toNat : Int → Nat) := Classical.choose_spec (shut _)
noncomputable def cnt : (e : Ty) → List e.den → Nat := Classical.choose (shut (fun _ xs => xs.length : (e : Ty) → List e.den → Nat))
theorem cnt_eq : cnt = (fun _ xs => xs.length : (e : Ty) → List e.den → Nat) := Classical.choose_spec (shut _)
noncomputable def len : (e : Ty) → List e.den → Int := Classical.choose (shut (fun _ xs => (xs.length : Int) : (e : Ty) → List e.den → Int))
theorem len_eq : len = (fun _ xs => (xs.length : Int) : (e : Ty) → List e.den → Int) := Classical.choose_spec (shut _)
noncomputable def get : (e : Ty) → List e.den → Int → e.den := Classical.choose (shut (fun e xs i => xs.getD i.toNat e.dflt : (e : Ty) → List e.den → Int → e.den))
theorem get_eq : get = (fun e xs i => xs.getD i.toNat e.dflt : (e : Ty) → List e.den → Int → e.den) := Classical.choose_spec (shut _)
noncomputable def elt : (e : Ty) → List e.den → Nat → e.den := Classical.choose (shut (fun e xs i => xs.getD i e.dflt : (e : Ty) → List e.den → Nat → e.den))
theorem elt_eq : elt = (fun e xs i => xs.getD i e.dflt : (e : Ty) → List e.den → Nat → e.den) := Classical.choose_spec (shut _)
noncomputable def upd : (e : Ty) → List e.den → Nat → e.den → List e.den := Classical.choose (shut (fun _ xs i x => xs.set i x : (e : Ty) → List e.den → Nat → e.den → List e.den))
theorem upd_eq : upd = (fun _ xs i x => xs.set i x : (e : Ty) → List e.den → Nat → e.den → List e.den) := Classical.choose_spec (shut _)
noncomputable def cut : (e : Ty) → List e.den → Int → Int → List e.den := Classical.choose (shut (fun _ xs a b => (xs.take b.toNat).drop a.toNat : (e : Ty) → List e.den → Int → Int → List e.den))
theorem cut_eq : cut = (fun _ xs a b => (xs.take b.toNat).drop a.toNat : (e : Ty) → List e.den → Int → Int → List e.den) := Classical.choose_spec (shut _)
noncomputable def app : (e : Ty) → List e.den → List e.den → List e.den := Classical.choose (shut (fun _ xs ys => xs ++ ys : (e : Ty) → List e.den → List e.den → List e.den))
theorem app_eq : app = (fun _ xs ys => xs ++ ys : (e : Ty) → List e.den → List e.den → List e.den) := Classical.choose_spec (shut _)
noncomputable def rep : (e : Ty) → Int → List e.den := Classical.choose (shut (fun e n => List.replicate n.toNat e.dflt : (e : Ty) → Int → List e.den))
theorem rep_eq : rep = (fun e n => List.replicate n.toNat e.dflt : (e : Ty) → Int → List e.den) := Classical.choose_spec (shut _)
noncomputable def eqv : (t : Ty) → t.den → t.den → Bool := Classical.choose (shut (fun t x y => t.eqv x y : (t : Ty) → t.den → t.den → Bool))
theorem eqv_eq : eqv = (fun t x y => t.eqv x y : (t : Ty) → t.den → t.den → Bool) := Classical.choose_spec (shut _)
noncomputable def neqv : (t : Ty) → t.den → t.den → Bool := Classical.choose (shut (fun t x y => !t.eqv x y : (t : Ty) → t.den → t.den → Bool))
theorem neqv_eq : neqv = (fun t x y => !t.eqv x y : (t : Ty) → t.den → t.den → Bool) := Classical.choose_spec (shut _)
noncomputable def ife : (t : Ty) → Bool → t.den → t.den → t.den := Classical.choose (shut (fun _ b x y => bif b then x else y : (t : Ty) → Bool → t.den → t.den → t.den))
theorem ife_eq : ife = (fun _ b x y => bif b then x else y : (t : Ty) → Bool → t.den → t.den → t.den) := Classical.choose_spec (shut _)
noncomputable def inR : Int → Nat → Prop := Classical.choose (shut (fun i n => 0 ≤ i ∧ i < (n : Int) : Int → Nat → Prop))
theorem inR_eq : inR = (fun i n => 0 ≤ i ∧ i < (n : Int) : Int → Nat → Prop) := Classical.choose_spec (shut _)
noncomputable def cut2 : Int → Int → Nat → Prop := Classical.choose (shut (fun a b n => 0 ≤ a ∧ a ≤ b ∧ b ≤ (n : Int) : Int → Int → Nat → Prop))
theorem cut2_eq : cut2 = (fun a b n => 0 ≤ a ∧ a ≤ b ∧ b ≤ (n : Int) : Int → Int → Nat → Prop) := Classical.choose_spec (shut _)
noncomputable def room : Nat → Ty → Prop := Classical.choose (shut (fun n e => n * (32 * e.size) ≤ lenMax : Nat → Ty → Prop))
theorem room_eq : room = (fun n e => n * (32 * e.size) ≤ lenMax : Nat → Ty → Prop) := Classical.choose_spec (shut _)
noncomputable def same : Int → Int → Prop := Classical.choose (shut (fun n m => n = m ∧ 0 ≤ n : Int → Int → Prop))
theorem same_eq : same = (fun n m => n = m ∧ 0 ≤ n : Int → Int → Prop) := Classical.choose_spec (shut _)
noncomputable def b2s : List Int → ByteArray := Classical.choose (shut (fun xs => strOfNums xs : List Int → ByteArray))
theorem b2s_eq : b2s = (fun xs => strOfNums xs : List Int → ByteArray) := Classical.choose_spec (shut _)
noncomputable def isNil : (e : Ty) → List e.den → Prop := Classical.choose (shut (fun _ xs => xs = [] : (e : Ty) → List e.den → Prop))
theorem isNil_eq : isNil = (fun _ xs => xs = [] : (e : Ty) → List e.den → Prop) := Classical.choose_spec (shut _)
end D
end Go.Tm
end

/- (TmPath)
  Paths: reading and writing a part of a box, a part of a slot.
-/
section
namespace Go.Tm

def RV.split : RV → Option (RV × RV)
  | .pr a b => some (a, b)
  | .v (.pr a b) x => some (.v a x.1, .v b x.2)
  | .vw s p (.pr a b) x => some (.vw s (p.map (· ++ [.l])) a x.1, .vw s (p.map (· ++ [.r])) b x.2)
  | .dd (.pr a b) => some (.dd a, .dd b)
  | _ => none

def RV.get : RV → List Bool → Option RV
  | c, [] => some c
  | c, d :: p =>
    match c.split with
    | some (a, b) => if d then b.get p else a.get p
    | none => none

def RV.put : RV → List Bool → RV → Option RV
  | _, [], y => some y
  | c, d :: p, y =>
    match c.split with
    | some (a, b) => if d then (b.put p y).map (.pr a ·) else (a.put p y).map (.pr · b)
    | none => none

noncomputable def getS : (t : Ty) → t.den → List Step → Option ((u : Ty) × u.den)
  | t, x, [] => some ⟨t, x⟩
  | .pr a _, x, .l :: p => getS a x.1 p
  | .pr _ b, x, .r :: p => getS b x.2 p
  | .sl e, xs, .ix i :: p => getS e (D.elt e xs i) p
  | _, _, _ => none

def castTo {t : Ty} (u : Ty) (x : t.den) : Option u.den := if h : t = u then some (h ▸ x) else none

theorem castTo_self {t : Ty} (x : t.den) : castTo t x = some x := by simp [castTo]

noncomputable def setS : (t : Ty) → t.den → List Step → (u : Ty) → u.den → Option t.den
  | t, _, [], _, y => castTo t y
  | .pr a _, x, .l :: p, u, y => (setS a x.1 p u y).map (·, x.2)
  | .pr _ b, x, .r :: p, u, y => (setS b x.2 p u y).map (x.1, ·)
  | .sl e, xs, .ix i :: p, u, y => (setS e (D.elt e xs i) p u y).map fun z => D.upd e xs i z
  | _, _, _, _, _ => none

theorem addrIn_append (w : World) (F : List Nat) : ∀ (p q : List Step) (t : Ty) (b o : Nat),
    addrIn w F t b o (p ++ q) = (addrIn w F t b o p).bind fun r => addrIn w F r.1 r.2.1 r.2.2 q
  | [], q, t, b, o => by
    rw [show addrIn w F t b o [] = some (t, b, o) by unfold addrIn; rfl]; rfl
  | .l :: p, q, t, b, o => by
    cases t <;> simp only [List.cons_append, addrIn, Option.bind_none]
    exact addrIn_append w F p q _ _ _
  | .r :: p, q, t, b, o => by
    cases t <;> simp only [List.cons_append, addrIn, Option.bind_none]
    exact addrIn_append w F p q _ _ _
  | .ix i :: p, q, t, b, o => by
    cases t <;> simp only [List.cons_append, addrIn, Option.bind_none]
    split
    · split
      · exact addrIn_append w F p q _ _ _
      · rfl
    · rfl

theorem addrH_append (w : World) (F : List Nat) (e : Ty) (h : Value) : ∀ (p q : List Step) (r : Ty × Nat × Nat), addrH w F e h p = some r →
    addrH w F e h (p ++ q) = addrIn w F r.1 r.2.1 r.2.2 q
  | [], _, _, hp => by simp [addrH] at hp
  | .l :: _, _, _, hp => by simp [addrH] at hp
  | .r :: _, _, _, hp => by simp [addrH] at hp
  | .ix i :: p, q, r, hp => by
    simp only [List.cons_append, addrH] at hp ⊢
    split at hp
    · split at hp
      · rename_i hh
        simp only [hh, and_self, if_true]
        rw [addrIn_append, hp]; rfl
      · cases hp
    · cases hp

theorem RowAt.append {w : World} {b o : Nat} {v1 v2 : List Value} (h : RowAt w b o (v1 ++ v2)) : RowAt w b o v1 ∧ RowAt w b (o + v1.length) v2 := by
  refine ⟨fun j v hj => h j v ?_, fun j v hj => ?_⟩
  · have hlt : j < v1.length := by
      rcases Nat.lt_or_ge j v1.length with h | h
      · exact h
      · rw [List.getElem?_eq_none h] at hj; cases hj
    rw [List.getElem?_append_left hlt]; exact hj
  · have := h (v1.length + j) v (by rw [List.getElem?_append_right (by omega)]; simpa using hj)
    rw [show o + v1.length + j = o + (v1.length + j) by omega]; exact this

theorem CR.split {E : Env} {c : RV} {vs : List Value} {a b : RV} (h : CR E c vs) (hs : c.split = some (a, b)) :
    ∃ v1 v2, vs = v1 ++ v2 ∧ CR E a v1 ∧ CR E b v2 := by
  cases c with
  | pr x y => simp only [RV.split, Option.some.injEq, Prod.mk.injEq] at hs; obtain ⟨rfl, rfl⟩ := hs; exact h
  | v t x =>
    cases t <;> simp only [RV.split, Option.some.injEq, Prod.mk.injEq, reduceCtorEq] at hs
    obtain ⟨rfl, rfl⟩ := hs
    exact h
  | dd t =>
    cases t <;> simp only [RV.split, Option.some.injEq, Prod.mk.injEq, reduceCtorEq] at hs
    obtain ⟨rfl, rfl⟩ := hs
    rename_i p q
    refine ⟨vs.take p.size, vs.drop p.size, (List.take_append_drop _ _).symm, ?_, ?_⟩
    · have h' : vs.length = p.size + q.size := h
      simp only [CR, List.length_take]; omega
    · have h' : vs.length = p.size + q.size := h
      simp only [CR, List.length_drop]; omega
  | vw s p t x =>
    cases t <;> simp only [RV.split, Option.some.injEq, Prod.mk.injEq, reduceCtorEq] at hs
    obtain ⟨rfl, rfl⟩ := hs
    rename_i y z
    obtain ⟨⟨v1, v2, rfl, h1, h2⟩, hob, hq⟩ := h
    have hl : v1.length = y.size := h1.len
    refine ⟨v1, v2, rfl, ⟨h1, hob, fun q hq' => ?_⟩, ⟨h2, hob, fun q hq' => ?_⟩⟩
    · cases p with
      | none => simp at hq'
      | some p0 =>
        simp only [Option.map_some, Option.some.injEq] at hq'
        subst hq'
        obtain ⟨e, d, xs, b, o, ho, ha, hr⟩ := hq p0 rfl
        refine ⟨e, d, xs, b, o, ho, ?_, (RowAt.append hr).1⟩
        rw [addrH_append _ _ _ _ _ _ _ ha]; simp [addrIn]
    · cases p with
      | none => simp at hq'
      | some p0 =>
        simp only [Option.map_some, Option.some.injEq] at hq'
        subst hq'
        obtain ⟨e, d, xs, b, o, ho, ha, hr⟩ := hq p0 rfl
        refine ⟨e, d, xs, b, o + y.size, ho, ?_, ?_⟩
        · rw [addrH_append _ _ _ _ _ _ _ ha]; simp [addrIn]
        · rw [← hl]; exact (RowAt.append hr).2
  | _ => simp [RV.split] at hs

theorem RV.fits_split {c : RV} {x y : Ty} {a b : RV} (h : c.fits (.pr x y) = true) (hs : c.split = some (a, b)) : a.fits x = true ∧ b.fits y = true := by
  cases c with
  | pr p q => simp only [RV.split, Option.some.injEq, Prod.mk.injEq] at hs; obtain ⟨rfl, rfl⟩ := hs; simpa [RV.fits] using h
  | v t z =>
    simp only [RV.fits, decide_eq_true_eq] at h; subst h
    simp only [RV.split, Option.some.injEq, Prod.mk.injEq] at hs
    obtain ⟨rfl, rfl⟩ := hs; simp [RV.fits]
  | dd t =>
    simp only [RV.fits, decide_eq_true_eq] at h; subst h
    simp only [RV.split, Option.some.injEq, Prod.mk.injEq] at hs
    obtain ⟨rfl, rfl⟩ := hs; simp [RV.fits]
  | vw s p t z =>
    simp only [RV.fits, decide_eq_true_eq] at h; subst h
    simp only [RV.split, Option.some.injEq, Prod.mk.injEq] at hs
    obtain ⟨rfl, rfl⟩ := hs; simp [RV.fits]
  | _ => simp [RV.split] at hs

theorem RV.fits_size : ∀ {c : RV} {t : Ty}, c.fits t = true → c.size = t.size
  | .v t _, u, h => by simp only [RV.fits, decide_eq_true_eq] at h; subst h; rfl
  | .nl e, u, h => by simp only [RV.fits, decide_eq_true_eq] at h; subst h; rfl
  | .rf _ e _, u, h => by simp only [RV.fits, decide_eq_true_eq] at h; subst h; rfl
  | .vw _ _ t _, u, h => by simp only [RV.fits, decide_eq_true_eq] at h; subst h; rfl
  | .dd t, u, h => by simp only [RV.fits, decide_eq_true_eq] at h; subst h; rfl
  | .pr a b, .pr x y, h => by
    simp only [RV.fits, Bool.and_eq_true] at h
    simp only [RV.size, Ty.size, RV.fits_size h.1, RV.fits_size h.2]
  | .un, .un, _ => rfl
  | .pr _ _, .int _, h | .pr _ _, .bool, h | .pr _ _, .str, h | .pr _ _, .sl _, h | .pr _ _, .un, h => by simp [RV.fits] at h
  | .un, .int _, h | .un, .bool, h | .un, .str, h | .un, .sl _, h | .un, .pr _ _, h => by simp [RV.fits] at h
  | .bi _ _, _, h | .ptr _ _, _, h | .pv _ _, _, h | .fn _ _, _, h | .tp _, _, h => by simp [RV.fits] at h

def updL (l : List Value) (k : Nat) (ys : List Value) : List Value := l.take k ++ ys ++ l.drop (k + ys.length)

theorem updL_length {l : List Value} {k : Nat} {ys : List Value} (h : k + ys.length ≤ l.length) : (updL l k ys).length = l.length := by
  simp only [updL, List.length_append, List.length_take, List.length_drop]; omega

theorem updL_get {l : List Value} {k : Nat} {ys : List Value} (h : k + ys.length ≤ l.length) (j : Nat) :
    (updL l k ys)[j]? = if k ≤ j ∧ j < k + ys.length then ys[j - k]? else l[j]? := by
  unfold updL
  by_cases h1 : j < k
  · rw [if_neg (by omega), List.append_assoc, List.getElem?_append_left (by simp; omega), List.getElem?_take, if_pos h1]
  · by_cases h2 : j < k + ys.length
    · rw [if_pos ⟨by omega, h2⟩, List.append_assoc, List.getElem?_append_right (by simp; omega), List.getElem?_append_left (by simp; omega)]
      congr 1; simp; omega
    · rw [if_neg (by omega), List.getElem?_append_right (by simp; omega), List.getElem?_drop]
      congr 1; simp; omega

theorem CR.get {E : Env} : ∀ {p : List Bool} {c y : RV} {t t' : Ty} {k : Nat} {cs : List Value}, CR E c cs → c.fits t = true → c.get p = some y → t.offB p = some (t', k) →
    CR E y ((cs.drop k).take t'.size) ∧ y.fits t' = true ∧ k + t'.size ≤ cs.length
  | [], c, y, t, t', k, cs, h, hf, hg, ho => by
    unfold RV.get at hg; unfold Ty.offB at ho
    simp only [Option.some.injEq, Prod.mk.injEq] at hg ho
    obtain ⟨rfl, rfl⟩ := ho
    subst hg
    have hl := h.len
    rw [RV.fits_size hf] at hl
    refine ⟨?_, hf, by omega⟩
    rw [List.drop_zero, List.take_of_length_le (by omega)]; exact h
  | d :: p, c, y, t, t', k, cs, h, hf, hg, ho => by
    simp only [RV.get] at hg
    split at hg
    case h_2 => cases hg
    rename_i a b hs
    obtain ⟨v1, v2, rfl, h1, h2⟩ := h.split hs
    cases t with
    | pr x y' =>
      obtain ⟨f1, f2⟩ := RV.fits_split hf hs
      have hl1 := h1.len
      rw [RV.fits_size f1] at hl1
      cases d with
      | false =>
        simp only [Ty.offB] at ho
        simp only [Bool.false_eq_true, if_false] at hg
        obtain ⟨hc, hfy, hk⟩ := CR.get h1 f1 hg ho
        refine ⟨?_, hfy, by simp; omega⟩
        rw [List.drop_append_of_le_length (by omega), List.take_append_of_le_length (by simp; omega)]
        exact hc
      | true =>
        simp only [Ty.offB, Option.map_eq_some_iff, Prod.mk.injEq] at ho
        obtain ⟨⟨t2, k2⟩, ho, rfl, rfl⟩ := ho
        simp only [if_true] at hg
        obtain ⟨hc, hfy, hk⟩ := CR.get h2 f2 hg ho
        refine ⟨?_, hfy, by simp; omega⟩
        rw [← hl1, List.drop_append, List.drop_eq_nil_of_le (by omega)]
        simpa using hc
    | _ => simp [Ty.offB] at ho

theorem CR.put {E : Env} : ∀ {p : List Bool} {c y c' : RV} {t t' : Ty} {k : Nat} {cs ys : List Value}, CR E c cs → c.fits t = true → c.put p y = some c' → t.offB p = some (t', k) →
    CR E y ys → y.fits t' = true → CR E c' (updL cs k ys) ∧ c'.fits t = true ∧ k + ys.length ≤ cs.length
  | [], c, y, c', t, t', k, cs, ys, h, hf, hg, ho, hy, hfy => by
    unfold RV.put at hg; unfold Ty.offB at ho
    simp only [Option.some.injEq, Prod.mk.injEq] at hg ho
    obtain ⟨rfl, rfl⟩ := ho
    subst hg
    have hl := h.len; have hl' := hy.len
    rw [RV.fits_size hf] at hl; rw [RV.fits_size hfy] at hl'
    refine ⟨?_, hfy, by omega⟩
    rw [updL, List.drop_eq_nil_of_le (by omega)]; simpa using hy
  | d :: p, c, y, c', t, t', k, cs, ys, h, hf, hg, ho, hy, hfy => by
    simp only [RV.put] at hg
    split at hg
    case h_2 => cases hg
    rename_i a b hs
    obtain ⟨v1, v2, rfl, h1, h2⟩ := h.split hs
    cases t with
    | pr x y' =>
      obtain ⟨f1, f2⟩ := RV.fits_split hf hs
      have hl1 := h1.len
      rw [RV.fits_size f1] at hl1
      cases d with
      | false =>
        simp only [Ty.offB] at ho
        simp only [Bool.false_eq_true, if_false, Option.map_eq_some_iff] at hg
        obtain ⟨a', hg, rfl⟩ := hg
        obtain ⟨hc, hfa, hk⟩ := CR.put h1 f1 hg ho hy hfy
        refine ⟨⟨updL v1 k ys, v2, ?_, hc, h2⟩, by simp [RV.fits, hfa, f2], by simp; omega⟩
        simp only [updL]
        rw [List.take_append_of_le_length (by omega), List.drop_append_of_le_length (by omega)]
        simp
      | true =>
        simp only [Ty.offB, Option.map_eq_some_iff, Prod.mk.injEq] at ho
        obtain ⟨⟨t2, k2⟩, ho, rfl, rfl⟩ := ho
        simp only [if_true, Option.map_eq_some_iff] at hg
        obtain ⟨b', hg, rfl⟩ := hg
        obtain ⟨hc, hfb, hk⟩ := CR.put h2 f2 hg ho hy hfy
        refine ⟨⟨v1, updL v2 k2 ys, ?_, h1, hc⟩, by simp [RV.fits, hfb, f1], by simp; omega⟩
        simp only [updL]
        rw [← hl1, List.take_append, List.drop_append]
        rw [List.take_of_length_le (show v1.length ≤ v1.length + k2 by omega), List.drop_eq_nil_of_le (show v1.length ≤ v1.length + k2 + ys.length by omega)]
        simp [Nat.add_assoc]
    | _ => simp [Ty.offB] at ho

end Go.Tm
end

/- (TmSlot)
  A part of a slot: read ('own_get'), where it lies ('own_loc'), written ('own_set').
-/
section
namespace Go.Tm

def hasIx (p : List Step) : Bool := p.any Step.isIx

theorem RowAt.drop_take {w : World} {b o k n : Nat} {vs : List Value} (h : RowAt w b o vs) : RowAt w b (o + k) ((vs.drop k).take n) := fun j v hj => by
  have := h (k + j) v (drop_take_get hj)
  rw [Nat.add_assoc]; exact this

theorem getD_of_lt {α : Type} {xs : List α} {i : Nat} {d : α} (h : i < xs.length) : xs.getD i d = xs[i] := by
  simp [List.getD, h]

theorem elt_of_lt {e : Ty} {xs : List e.den} {i : Nat} (h : i < xs.length) : D.elt e xs i = xs[i] := by
  rw [D.elt_eq]; exact getD_of_lt h

theorem get_of_lt {e : Ty} {xs : List e.den} {i : Int} (h : i.toNat < xs.length) : D.get e xs i = xs[i.toNat] := by
  rw [D.get_eq]; exact getD_of_lt h

theorem upd_is {e : Ty} {xs : List e.den} {i : Nat} {x : e.den} : D.upd e xs i x = xs.set i x := by rw [D.upd_eq]

theorem own_get {w : World} {ok : Nat → Prop} {d : Bool} {F : List Nat} (hdis : ∀ b, ok b → b ∉ F) :
    ∀ (p : List Step) {t t' : Ty} {vs : List Value} {x : t.den} {fp : List Nat} {b o b' o' : Nat}, Own w ok d t vs x fp → RowAt w b o vs →
      addrIn w F t b o p = some (t', b', o') →
      ∃ y vs' fp', getS t x p = some ⟨t', y⟩ ∧ RowAt w b' o' vs' ∧ Own w ok d t' vs' y fp' ∧ (∀ c ∈ fp', c ∈ fp) ∧
        ((hasIx p = false ∧ b' = b ∧ o ≤ o' ∧ o' + t'.size ≤ o + t.size) ∨ (hasIx p = true ∧ b' ∈ fp))
  | [], t, t', vs, x, fp, b, o, b', o', h, hr, ha => by
    unfold addrIn at ha
    simp only [Option.some.injEq, Prod.mk.injEq] at ha
    obtain ⟨rfl, rfl, rfl⟩ := ha
    exact ⟨x, vs, fp, by unfold getS; rfl, hr, h, fun c hc => hc, .inl ⟨rfl, rfl, Nat.le_refl _, Nat.le_refl _⟩⟩
  | .l :: p, t, t', vs, x, fp, b, o, b', o', h, hr, ha => by
    cases t <;> simp only [addrIn, reduceCtorEq] at ha
    obtain ⟨v1, v2, f1, f2, rfl, rfl, h1, h2⟩ := h
    obtain ⟨y, vs', fp', hg, hr', ho, hf, hl⟩ := own_get hdis p h1 (RowAt.append hr).1 ha
    refine ⟨y, vs', fp', by simpa only [getS] using hg, hr', ho, fun c hc => by simp [hf c hc], ?_⟩
    rcases hl with ⟨a, b1, c, e⟩ | ⟨a, b1⟩
    · exact .inl ⟨by simpa [hasIx, Step.isIx] using a, b1, c, by simp only [Ty.size]; omega⟩
    · exact .inr ⟨by simpa [hasIx, Step.isIx] using a, by simp [b1]⟩
  | .r :: p, t, t', vs, x, fp, b, o, b', o', h, hr, ha => by
    cases t <;> simp only [addrIn, reduceCtorEq] at ha
    obtain ⟨v1, v2, f1, f2, rfl, rfl, h1, h2⟩ := h
    rw [← h1.len] at ha
    obtain ⟨y, vs', fp', hg, hr', ho, hf, hl⟩ := own_get hdis p h2 (RowAt.append hr).2 ha
    refine ⟨y, vs', fp', by simpa only [getS] using hg, hr', ho, fun c hc => by simp [hf c hc], ?_⟩
    have := h1.len
    rcases hl with ⟨a, b1, c, e⟩ | ⟨a, b1⟩
    · exact .inl ⟨by simpa [hasIx, Step.isIx] using a, b1, by omega, by simp only [Ty.size]; omega⟩
    · exact .inr ⟨by simpa [hasIx, Step.isIx] using a, by simp [b1]⟩
  | .ix i :: p, t, t', vs, x, fp, b, o, b', o', h, hr, ha => by
    cases t <;> simp only [addrIn, reduceCtorEq] at ha
    rename_i e
    rcases h with ⟨rfl, h, rfl, a, cap, rfl, hc, hm, hx⟩ | ⟨rfl, h, rfl⟩
    · have hcell := hr 0 _ rfl
      rw [Nat.add_zero] at hcell
      rw [hcell] at ha
      split at ha
      case h_2 => cases ha
      rename_i b1 o1 len cap' heq
      simp only [Option.some.injEq, Value.slice.injEq] at heq
      obtain ⟨rfl, hlen, rfl⟩ := heq
      split at ha
      case isFalse => cases ha
      rename_i hi
      rw [← hlen] at hi
      rcases hx with ⟨h0, _⟩ | ⟨b2, cs, ety, fps, hae, hb, hsz, hfl, rfl, hel⟩
      · omega
      · simp only [Option.some.injEq, Addr.mk.injEq, and_true] at hae
        obtain ⟨rfl, rfl⟩ := hae
        have hi' : i < fps.length := by omega
        rw [Nat.zero_add] at ha
        obtain ⟨y, vs', fp', hg, hr', ho, hf, hl⟩ := own_get hdis p (hel i hi.1 hi') (RowAt.of_block hb) ha
        refine ⟨y, vs', fp', ?_, hr', ho, ?_, .inr ⟨by simp [hasIx, Step.isIx], ?_⟩⟩
        · simp only [getS]; rw [elt_of_lt hi.1]; exact hg
        · intro c hc
          exact List.mem_cons_of_mem _ (List.mem_flatten.2 ⟨_, List.getElem_mem hi', hf c hc⟩)
        · rcases hl with ⟨_, b1', _⟩ | ⟨_, b1'⟩
          · rw [b1']; simp
          · exact List.mem_cons_of_mem _ (List.mem_flatten.2 ⟨_, List.getElem_mem hi', b1'⟩)
    · exfalso
      obtain ⟨a, cap, rfl, hc, hm, hx⟩ := h
      have hcell := hr 0 _ rfl
      rw [Nat.add_zero] at hcell
      rw [hcell] at ha
      split at ha
      case h_2 => cases ha
      rename_i b1 o1 len cap' heq
      simp only [Option.some.injEq, Value.slice.injEq] at heq
      obtain ⟨rfl, hlen, rfl⟩ := heq
      split at ha
      case isFalse => cases ha
      rename_i hi
      rw [← hlen] at hi
      obtain ⟨b2, o2, hae, hb, _⟩ := hx (by intro h0; simp [h0] at hi)
      simp only [Option.some.injEq, Addr.mk.injEq, and_true] at hae
      obtain ⟨rfl, rfl⟩ := hae
      exact hdis _ hb hi.2

/-- The world in which cells of one block were overwritten. -/
structure Wrote (w w1 : World) (b' o' : Nat) (ys : List Value) : Prop where
  other : ∀ c, c ≠ b' → w1.heap[c]? = w.heap[c]?
  blk : ∃ cs ety, w.heap[b']? = some (.cells cs ety (0, 0)) ∧ o' + ys.length ≤ cs.size ∧ w1.heap[b']? = some (.cells (updL cs.toList o' ys).toArray ety (0, 0))

theorem Wrote.cell {w w1 : World} {b' o' : Nat} {ys : List Value} (h : Wrote w w1 b' o' ys) (b o : Nat) :
    w1.cell? ⟨b, o, none⟩ = if b = b' ∧ o' ≤ o ∧ o < o' + ys.length then ys[o - o']? else w.cell? ⟨b, o, none⟩ := by
  obtain ⟨cs, ety, h1, hsz, h2⟩ := h.blk
  by_cases hb : b = b'
  · subst hb
    rw [cell_of_block h1, cell_of_block h2]
    have := updL_get (l := cs.toList) (k := o') (ys := ys) (by simpa using hsz) o
    simp only [List.getElem?_toArray] at this ⊢
    rw [this]
    by_cases hr : o' ≤ o ∧ o < o' + ys.length
    · simp [hr]
    · rw [if_neg hr, if_neg (by intro hh; exact hr hh.2)]; simp
  · rw [if_neg (by intro hh; exact hb hh.1)]
    exact cell_same (h.other b hb)

theorem Wrote.row_apart {w w1 : World} {b' o' : Nat} {ys : List Value} (h : Wrote w w1 b' o' ys) {b o : Nat} {vs : List Value} (hr : RowAt w b o vs)
    (hd : b ≠ b' ∨ o + vs.length ≤ o' ∨ o' + ys.length ≤ o) : RowAt w1 b o vs := fun j v hj => by
  have hlt : j < vs.length := by
    rcases Nat.lt_or_ge j vs.length with h | h
    · exact h
    · rw [List.getElem?_eq_none h] at hj; cases hj
  rw [h.cell, if_neg (by rintro ⟨rfl, h1, h2⟩; rcases hd with hd | hd | hd <;> first | exact hd rfl | omega)]
  exact hr j v hj

theorem flatten_split {α : Type} {l : List (List α)} {i : Nat} (h : i < l.length) : l.flatten = (l.take i).flatten ++ l[i] ++ (l.drop (i + 1)).flatten := by
  have e : l = l.take i ++ l[i] :: l.drop (i + 1) := by simp
  have := congrArg List.flatten e
  rw [List.flatten_append, List.flatten_cons] at this
  rw [this]; simp

theorem flatten_set {α : Type} {l : List (List α)} {i : Nat} {x : List α} (h : i < l.length) : (l.set i x).flatten = (l.take i).flatten ++ x ++ (l.drop (i + 1)).flatten := by
  rw [List.set_eq_take_append_cons_drop, if_pos h]
  simp

theorem own_set {w w1 : World} {ok : Nat → Prop} {d : Bool} {F : List Nat} (hdis : ∀ b, ok b → b ∉ F) {u : Ty} {b' o' : Nat} {ys : List Value} {y : u.den} {fpy : List Nat}
    (hw : Wrote w w1 b' o' ys) (hok : ¬ ok b') (hy : Own w1 ok d u ys y fpy) :
    ∀ (p : List Step) {t : Ty} {vs : List Value} {x : t.den} {fp : List Nat} {b o : Nat}, Own w ok d t vs x fp → RowAt w b o vs →
      (b :: fp).Nodup → addrIn w F t b o p = some (u, b', o') →
      ∃ x1 vs1 fp1 A fpo B, setS t x p u y = some x1 ∧ Own w1 ok d t vs1 x1 fp1 ∧ fp = A ++ fpo ++ B ∧ fp1 = A ++ fpy ++ B ∧
        ((b' = b ∧ o ≤ o' ∧ o' + u.size ≤ o + t.size ∧ vs1 = updL vs (o' - o) ys) ∨ (b' ≠ b ∧ b' ∈ fp ∧ vs1 = vs))
  | [], t, vs, x, fp, b, o, h, hr, hnd, ha => by
    unfold addrIn at ha
    simp only [Option.some.injEq, Prod.mk.injEq] at ha
    obtain ⟨rfl, rfl, rfl⟩ := ha
    refine ⟨y, ys, fpy, [], fp, [], by unfold setS; exact castTo_self y, hy, by simp, by simp, .inl ⟨rfl, Nat.le_refl _, Nat.le_refl _, ?_⟩⟩
    rw [Nat.sub_self, updL, List.drop_eq_nil_of_le (by rw [h.len, hy.len]; omega)]; simp
  | .l :: p, t, vs, x, fp, b, o, h, hr, hnd, ha => by
    cases t <;> simp only [addrIn, reduceCtorEq] at ha
    rename_i t1 t2
    obtain ⟨v1, v2, f1, f2, rfl, rfl, h1, h2⟩ := h
    have hl1 := h1.len
    have hlb : b ∉ f1 ∧ b ∉ f2 ∧ f1.Nodup ∧ f2.Nodup ∧ (∀ c ∈ f1, c ∉ f2) := by
      simp only [List.nodup_cons, List.mem_append, not_or, List.nodup_append] at hnd
      exact ⟨hnd.1.1, hnd.1.2, hnd.2.1, hnd.2.2.1, fun c hc hc' => hnd.2.2.2 c hc c hc' rfl⟩
    obtain ⟨x1, vs1, fp1, A, fpo, B, hs, ho, rfl, rfl, hl⟩ := own_set hdis hw hok hy p h1 (RowAt.append hr).1 (by simp [hlb]) ha
    have h2' : Own w1 ok d t2 v2 x.2 f2 := by
      have hb2 : b' ∉ f2 := by
        rcases hl with ⟨rfl, _⟩ | ⟨_, hm, _⟩
        · exact hlb.2.1
        · exact hlb.2.2.2.2 _ hm
      exact h2.mono (fun _ h => h) (fun c hc => hw.other c (by rintro rfl; exact hok hc)) (fun c hc => hw.other c (by rintro rfl; exact hb2 hc))
    refine ⟨(x1, x.2), vs1 ++ v2, A ++ fpy ++ B ++ f2, A, fpo, B ++ f2, ?_, ⟨vs1, v2, _, f2, rfl, rfl, ho, h2'⟩, by simp, by simp, ?_⟩
    · simp only [setS, hs, Option.map_some]
    · rcases hl with ⟨rfl, c, e, rfl⟩ | ⟨hne, hm, rfl⟩
      · refine .inl ⟨rfl, c, by simp only [Ty.size]; omega, ?_⟩
        have := hy.len
        simp only [updL]
        rw [List.take_append_of_le_length (by omega), List.drop_append_of_le_length (by omega)]; simp
      · exact .inr ⟨hne, by simp only [List.mem_append] at hm ⊢; exact .inl hm, rfl⟩
  | .r :: p, t, vs, x, fp, b, o, h, hr, hnd, ha => by
    cases t <;> simp only [addrIn, reduceCtorEq] at ha
    rename_i t1 t2
    obtain ⟨v1, v2, f1, f2, rfl, rfl, h1, h2⟩ := h
    have hl1 := h1.len
    rw [← hl1] at ha
    have hlb : b ∉ f1 ∧ b ∉ f2 ∧ f1.Nodup ∧ f2.Nodup ∧ (∀ c ∈ f2, c ∉ f1) := by
      simp only [List.nodup_cons, List.mem_append, not_or, List.nodup_append] at hnd
      exact ⟨hnd.1.1, hnd.1.2, hnd.2.1, hnd.2.2.1, fun c hc hc' => hnd.2.2.2 c hc' c hc rfl⟩
    obtain ⟨x1, vs1, fp1, A, fpo, B, hs, ho, rfl, rfl, hl⟩ := own_set hdis hw hok hy p h2 (RowAt.append hr).2 (by simp [hlb]) ha
    have h1' : Own w1 ok d t1 v1 x.1 f1 := by
      have hb2 : b' ∉ f1 := by
        rcases hl with ⟨rfl, _⟩ | ⟨_, hm, _⟩
        · exact hlb.1
        · exact hlb.2.2.2.2 _ hm
      exact h1.mono (fun _ h => h) (fun c hc => hw.other c (by rintro rfl; exact hok hc)) (fun c hc => hw.other c (by rintro rfl; exact hb2 hc))
    refine ⟨(x.1, x1), v1 ++ vs1, f1 ++ (A ++ fpy ++ B), f1 ++ A, fpo, B, ?_, ⟨v1, vs1, f1, _, rfl, rfl, h1', ho⟩, by simp, by simp, ?_⟩
    · simp only [setS, hs, Option.map_some]
    · rcases hl with ⟨rfl, c, e, rfl⟩ | ⟨hne, hm, rfl⟩
      · refine .inl ⟨rfl, by omega, by simp only [Ty.size]; omega, ?_⟩
        simp only [updL]
        rw [List.take_append, List.drop_append, List.take_of_length_le (show v1.length ≤ o' - o by omega),
          List.drop_eq_nil_of_le (show v1.length ≤ o' - o + ys.length by omega), show o' - o - v1.length = o' - (o + v1.length) by omega,
          show o' - o + ys.length - v1.length = o' - (o + v1.length) + ys.length by omega]
        simp
      · exact .inr ⟨hne, by simp only [List.mem_append] at hm ⊢; exact .inr hm, rfl⟩
  | .ix i :: p, t, vs, x, fp, b, o, h, hr, hnd, ha => by
    have hget := own_get hdis (.ix i :: p) h hr ha
    cases t <;> simp only [addrIn, reduceCtorEq] at ha
    rename_i e
    rcases h with ⟨rfl, h, rfl, a, cap, rfl, hc, hm, hx⟩ | ⟨rfl, h, rfl⟩
    case inr =>
      obtain ⟨_, _, _, _, _, _, _, hl⟩ := hget
      rcases hl with ⟨hh, _⟩ | ⟨_, hh⟩
      · simp [hasIx, Step.isIx] at hh
      · simp at hh
    have hcell := hr 0 _ rfl
    rw [Nat.add_zero] at hcell
    rw [hcell] at ha
    split at ha
    case h_2 => cases ha
    rename_i b1 o1 len cap' heq
    simp only [Option.some.injEq, Value.slice.injEq] at heq
    obtain ⟨rfl, hlen, rfl⟩ := heq
    split at ha
    case isFalse => cases ha
    rename_i hi
    rw [← hlen] at hi
    rcases hx with ⟨h0, _⟩ | ⟨b2, cs, ety, fps, hae, hb, hsz, hfl, rfl, hel⟩
    · omega
    simp only [Option.some.injEq, Addr.mk.injEq, and_true] at hae
    obtain ⟨rfl, rfl⟩ := hae
    have hi' : i < fps.length := by omega
    rw [Nat.zero_add] at ha
    have hnd' : (b1 :: fps.flatten).Nodup := (List.nodup_cons.1 hnd).2
    have hndi : (b1 :: fps[i]).Nodup := by
      rw [flatten_split hi'] at hnd'
      simp only [List.nodup_cons, List.mem_append, not_or, List.nodup_append] at hnd' ⊢
      exact ⟨hnd'.1.1.2, hnd'.2.1.2.1⟩
    have hbb : b ∉ (b1 :: fps.flatten) := (List.nodup_cons.1 hnd).1
    obtain ⟨x1, vs1, fp1, A, fpo, B, hs, ho, hfo, rfl, hl⟩ := own_set hdis hw hok hy p (hel i hi.1 hi') (RowAt.of_block hb) hndi ha
    have hin : b' ∈ b1 :: fps.flatten := by
      rcases hl with ⟨rfl, _⟩ | ⟨_, hm, _⟩
      · simp
      · exact List.mem_cons_of_mem _ (List.mem_flatten.2 ⟨_, List.getElem_mem hi', hm⟩)
    have hne : b' ≠ b := by rintro rfl; exact hbb hin
    -- the new block
    have hcs : ∃ cs1 : Array Value, w1.heap[b1]? = some (.cells cs1 ety (0, 0)) ∧ cs1.size = cs.size ∧
        ((cs1.toList.drop (i * e.size)).take e.size) = vs1 ∧
        ∀ j, j ≠ i → j < x.length → ((cs1.toList.drop (j * e.size)).take e.size) = ((cs.toList.drop (j * e.size)).take e.size) := by
      have hlv1 : vs1.length = e.size := ho.len
      rcases hl with ⟨rfl, h1, h2, rfl⟩ | ⟨hne1, hm1, rfl⟩
      · obtain ⟨cs0, ety0, hb0, hsz0, hb1⟩ := hw.blk
        rw [hb] at hb0
        simp only [Option.some.injEq, Obj.cells.injEq] at hb0
        obtain ⟨rfl, rfl, _⟩ := hb0
        have hyl := hy.len
        have hlen1 : (updL cs.toList o' ys).length = cs.size := by rw [updL_length (by simpa using hsz0)]; simp
        refine ⟨_, hb1, by simpa using hlen1, ?_, fun j hj hjl => ?_⟩
        · apply List.ext_getElem?
          intro k
          simp only [List.getElem?_take, List.getElem?_drop, updL_get (l := cs.toList) (by simpa using hsz0)]
          by_cases hk : k < e.size
          · rw [if_pos hk, updL_get (by simp only [List.length_take, List.length_drop, Array.length_toList]; omega)]
            by_cases hin : o' ≤ i * e.size + k ∧ i * e.size + k < o' + ys.length
            · rw [if_pos hin, if_pos (by omega)]; congr 1; omega
            · rw [if_neg hin, if_neg (by omega)]
              simp [hk]
          · rw [if_neg hk]
            symm
            apply List.getElem?_eq_none
            rw [hlv1]; omega
        · apply List.ext_getElem?
          intro k
          simp only [List.getElem?_take, List.getElem?_drop, updL_get (l := cs.toList) (by simpa using hsz0)]
          by_cases hk : k < e.size
          · rw [if_pos hk, if_pos hk, if_neg]
            intro hin
            rcases Nat.lt_or_gt_of_ne hj with hlt | hgt
            · have : j * e.size + e.size ≤ i * e.size := by
                have := Nat.mul_le_mul_right e.size (show j + 1 ≤ i by omega)
                rw [Nat.add_mul] at this; omega
              omega
            · have : i * e.size + e.size ≤ j * e.size := by
                have := Nat.mul_le_mul_right e.size (show i + 1 ≤ j by omega)
                rw [Nat.add_mul] at this; omega
              omega
          · rw [if_neg hk, if_neg hk]
      · exact ⟨cs, (hw.other b1 (Ne.symm hne1)).trans hb, rfl, rfl, fun _ _ _ => rfl⟩
    obtain ⟨cs1, hb1, hsz1, hci, hcj⟩ := hcs
    refine ⟨x.set i x1, [.slice (some ⟨b1, 0, none⟩) x.length cap], b1 :: (fps.set i (A ++ fpy ++ B)).flatten,
      b1 :: ((fps.take i).flatten ++ A), fpo, B ++ (fps.drop (i + 1)).flatten, ?_, ?_, ?_, ?_, .inr ⟨hne, hin, rfl⟩⟩
    · simp only [setS]; rw [elt_of_lt hi.1, hs]; simp only [Option.map_some, upd_is]
    · refine .inl ⟨rfl, _, rfl, some ⟨b1, 0, none⟩, cap, by simp, by simpa using hc, by simpa using hm, .inr ⟨b1, cs1, ety, fps.set i (A ++ fpy ++ B), rfl, hb1, hsz1.trans hsz, by simpa using hfl, rfl, ?_⟩⟩
      intro j hj hj'
      simp only [List.length_set] at hj hj'
      by_cases hji : j = i
      · subst hji
        rw [hci]
        simpa using ho
      · rw [hcj j hji hj]
        have hjo : Own w ok true e ((cs.toList.drop (j * e.size)).take e.size) x[j] fps[j] := hel j hj hj'
        have hj2 : b' ∉ fps[j] := by
          intro hmem
          rw [flatten_split hi'] at hnd'
          have hjm : fps[j] ∈ fps.take i ∨ fps[j] ∈ fps.drop (i + 1) := by
            rcases Nat.lt_or_gt_of_ne hji with hlt | hgt
            · left; exact List.mem_take_iff_getElem.2 ⟨j, by omega, rfl⟩
            · right; exact List.mem_drop_iff_getElem.2 ⟨j - (i + 1), by omega, by congr 1; omega⟩
          simp only [List.nodup_cons, List.mem_append, not_or, List.nodup_append] at hnd'
          rcases hl with ⟨rfl, _⟩ | ⟨_, hm1, _⟩
          · rcases hjm with hjm | hjm
            · exact hnd'.1.1.1 (List.mem_flatten.2 ⟨_, hjm, hmem⟩)
            · exact hnd'.1.2 (List.mem_flatten.2 ⟨_, hjm, hmem⟩)
          · rcases hjm with hjm | hjm
            · exact hnd'.2.1.2.2 _ (List.mem_flatten.2 ⟨_, hjm, hmem⟩) _ hm1 rfl
            · exact hnd'.2.2.2 _ (.inr hm1) _ (List.mem_flatten.2 ⟨_, hjm, hmem⟩) rfl
        simp only [List.getElem_set_ne (Ne.symm hji)]
        exact hjo.mono (fun _ h => h) (fun c hc => hw.other c (by rintro rfl; exact hok hc)) (fun c hc => hw.other c (by rintro rfl; exact hj2 hc))
    · rw [flatten_split hi', hfo]; simp
    · rw [flatten_set hi']; simp

theorem slot_get {w : World} {ok : Nat → Prop} {d : Bool} {F : List Nat} (hdis : ∀ b, ok b → b ∉ F) {e u : Ty} {h : Value} {xs : List e.den} {fp : List Nat} {i : Nat} {p : List Step} {b' o' : Nat}
    (hh : SlotR w e (fun cs x f => Own w ok d e cs x f) h xs fp) (ha : addrH w F e h (.ix i :: p) = some (u, b', o')) :
    i < xs.length ∧ ∃ y vs' fp', getS e (D.elt e xs i) p = some ⟨u, y⟩ ∧ RowAt w b' o' vs' ∧ Own w ok d u vs' y fp' ∧ (∀ c ∈ fp', c ∈ fp) ∧ b' ∈ fp := by
  obtain ⟨a, cap, rfl, hc, hm, hx⟩ := hh
  simp only [addrH] at ha
  split at ha
  case h_2 => cases ha
  rename_i b1 o1 len cap' heq
  simp only [Value.slice.injEq] at heq
  obtain ⟨rfl, hlen, rfl⟩ := heq
  split at ha
  case isFalse => cases ha
  rename_i hi
  rw [← hlen] at hi
  rcases hx with ⟨h0, _⟩ | ⟨b2, cs, ety, fps, hae, hb, hsz, hfl, rfl, hel⟩
  · omega
  simp only [Option.some.injEq, Addr.mk.injEq, and_true] at hae
  obtain ⟨rfl, rfl⟩ := hae
  have hi' : i < fps.length := by omega
  rw [Nat.zero_add] at ha
  obtain ⟨y, vs', fp', hg, hr', ho, hf, hl⟩ := own_get hdis p (hel i hi.1 hi') (RowAt.of_block hb) ha
  refine ⟨hi.1, y, vs', fp', ?_, hr', ho, ?_, ?_⟩
  · rw [elt_of_lt hi.1]; exact hg
  · intro c hc
    exact List.mem_cons_of_mem _ (List.mem_flatten.2 ⟨_, List.getElem_mem hi', hf c hc⟩)
  · rcases hl with ⟨_, b1', _⟩ | ⟨_, b1'⟩
    · rw [b1']; simp
    · exact List.mem_cons_of_mem _ (List.mem_flatten.2 ⟨_, List.getElem_mem hi', b1'⟩)

theorem slot_set {w w1 : World} {ok : Nat → Prop} {d : Bool} {F : List Nat} (hdis : ∀ b, ok b → b ∉ F) {e u : Ty} {b' o' : Nat} {ys : List Value} {y : u.den} {fpy : List Nat}
    (hw : Wrote w w1 b' o' ys) (hok : ¬ ok b') (hy : Own w1 ok d u ys y fpy) {h : Value} {x : List e.den} {fp : List Nat} {i : Nat} {p : List Step}
    (hh : SlotR w e (fun cs x f => Own w ok d e cs x f) h x fp) (hnd' : fp.Nodup) (ha : addrH w F e h (.ix i :: p) = some (u, b', o')) :
    i < x.length ∧ b' ∈ fp ∧ ∃ z fp1 A fpo B, setS e (D.elt e x i) p u y = some z ∧ SlotR w1 e (fun cs x f => Own w1 ok d e cs x f) h (x.set i z) fp1 ∧ fp = A ++ fpo ++ B ∧ fp1 = A ++ fpy ++ B := by
    obtain ⟨a, cap, rfl, hc, hm, hx⟩ := hh
    simp only [addrH] at ha
    split at ha
    case h_2 => cases ha
    rename_i b1 o1 len cap' heq
    simp only [Value.slice.injEq] at heq
    obtain ⟨rfl, hlen, rfl⟩ := heq
    split at ha
    case isFalse => cases ha
    rename_i hi
    rw [← hlen] at hi
    rcases hx with ⟨h0, _⟩ | ⟨b2, cs, ety, fps, hae, hb, hsz, hfl, rfl, hel⟩
    · omega
    simp only [Option.some.injEq, Addr.mk.injEq, and_true] at hae
    obtain ⟨rfl, rfl⟩ := hae
    have hi' : i < fps.length := by omega
    rw [Nat.zero_add] at ha
    have hndi : (b1 :: fps[i]).Nodup := by
      rw [flatten_split hi'] at hnd'
      simp only [List.nodup_cons, List.mem_append, not_or, List.nodup_append] at hnd' ⊢
      exact ⟨hnd'.1.1.2, hnd'.2.1.2.1⟩
    obtain ⟨x1, vs1, fp1, A, fpo, B, hs, ho, hfo, rfl, hl⟩ := own_set hdis hw hok hy p (hel i hi.1 hi') (RowAt.of_block hb) hndi ha
    have hin : b' ∈ b1 :: fps.flatten := by
      rcases hl with ⟨rfl, _⟩ | ⟨_, hm, _⟩
      · simp
      · exact List.mem_cons_of_mem _ (List.mem_flatten.2 ⟨_, List.getElem_mem hi', hm⟩)
    -- the new block
    have hcs : ∃ cs1 : Array Value, w1.heap[b1]? = some (.cells cs1 ety (0, 0)) ∧ cs1.size = cs.size ∧
        ((cs1.toList.drop (i * e.size)).take e.size) = vs1 ∧
        ∀ j, j ≠ i → j < x.length → ((cs1.toList.drop (j * e.size)).take e.size) = ((cs.toList.drop (j * e.size)).take e.size) := by
      have hlv1 : vs1.length = e.size := ho.len
      rcases hl with ⟨rfl, h1, h2, rfl⟩ | ⟨hne1, hm1, rfl⟩
      · obtain ⟨cs0, ety0, hb0, hsz0, hb1⟩ := hw.blk
        rw [hb] at hb0
        simp only [Option.some.injEq, Obj.cells.injEq] at hb0
        obtain ⟨rfl, rfl, _⟩ := hb0
        have hyl := hy.len
        have hlen1 : (updL cs.toList o' ys).length = cs.size := by rw [updL_length (by simpa using hsz0)]; simp
        refine ⟨_, hb1, by simpa using hlen1, ?_, fun j hj hjl => ?_⟩
        · apply List.ext_getElem?
          intro k
          simp only [List.getElem?_take, List.getElem?_drop, updL_get (l := cs.toList) (by simpa using hsz0)]
          by_cases hk : k < e.size
          · rw [if_pos hk, updL_get (by simp only [List.length_take, List.length_drop, Array.length_toList]; omega)]
            by_cases hin : o' ≤ i * e.size + k ∧ i * e.size + k < o' + ys.length
            · rw [if_pos hin, if_pos (by omega)]; congr 1; omega
            · rw [if_neg hin, if_neg (by omega)]
              simp [hk]
          · rw [if_neg hk]
            symm
            apply List.getElem?_eq_none
            rw [hlv1]; omega
        · apply List.ext_getElem?
          intro k
          simp only [List.getElem?_take, List.getElem?_drop, updL_get (l := cs.toList) (by simpa using hsz0)]
          by_cases hk : k < e.size
          · rw [if_pos hk, if_pos hk, if_neg]
            intro hin
            rcases Nat.lt_or_gt_of_ne hj with hlt | hgt
            · have : j * e.size + e.size ≤ i * e.size := by
                have := Nat.mul_le_mul_right e.size (show j + 1 ≤ i by omega)
                rw [Nat.add_mul] at this; omega
              omega
            · have : i * e.size + e.size ≤ j * e.size := by
                have := Nat.mul_le_mul_right e.size (show i + 1 ≤ j by omega)
                rw [Nat.add_mul] at this; omega
              omega
          · rw [if_neg hk, if_neg hk]
      · exact ⟨cs, (hw.other b1 (Ne.symm hne1)).trans hb, rfl, rfl, fun _ _ _ => rfl⟩
    obtain ⟨cs1, hb1, hsz1, hci, hcj⟩ := hcs
    refine ⟨hi.1, hin, x1, b1 :: (fps.set i (A ++ fpy ++ B)).flatten,
      b1 :: ((fps.take i).flatten ++ A), fpo, B ++ (fps.drop (i + 1)).flatten, ?_, ?_, ?_, ?_⟩
    · rw [elt_of_lt hi.1, hs]
    · refine ⟨some ⟨b1, 0, none⟩, cap, by simp, by simpa using hc, by simpa using hm, .inr ⟨b1, cs1, ety, fps.set i (A ++ fpy ++ B), rfl, hb1, hsz1.trans hsz, by simpa using hfl, rfl, ?_⟩⟩
      intro j hj hj'
      simp only [List.length_set] at hj hj'
      by_cases hji : j = i
      · subst hji
        rw [hci]
        simpa using ho
      · rw [hcj j hji hj]
        have hjo : Own w ok d e ((cs.toList.drop (j * e.size)).take e.size) x[j] fps[j] := hel j hj hj'
        have hj2 : b' ∉ fps[j] := by
          intro hmem
          rw [flatten_split hi'] at hnd'
          have hjm : fps[j] ∈ fps.take i ∨ fps[j] ∈ fps.drop (i + 1) := by
            rcases Nat.lt_or_gt_of_ne hji with hlt | hgt
            · left; exact List.mem_take_iff_getElem.2 ⟨j, by omega, rfl⟩
            · right; exact List.mem_drop_iff_getElem.2 ⟨j - (i + 1), by omega, by congr 1; omega⟩
          simp only [List.nodup_cons, List.mem_append, not_or, List.nodup_append] at hnd'
          rcases hl with ⟨rfl, _⟩ | ⟨_, hm1, _⟩
          · rcases hjm with hjm | hjm
            · exact hnd'.1.1.1 (List.mem_flatten.2 ⟨_, hjm, hmem⟩)
            · exact hnd'.1.2 (List.mem_flatten.2 ⟨_, hjm, hmem⟩)
          · rcases hjm with hjm | hjm
            · exact hnd'.2.1.2.2 _ (List.mem_flatten.2 ⟨_, hjm, hmem⟩) _ hm1 rfl
            · exact hnd'.2.2.2 _ (.inr hm1) _ (List.mem_flatten.2 ⟨_, hjm, hmem⟩) rfl
        simp only [List.getElem_set_ne (Ne.symm hji)]
        exact hjo.mono (fun _ h => h) (fun c hc => hw.other c (by rintro rfl; exact hok hc)) (fun c hc => hw.other c (by rintro rfl; exact hj2 hc))
    · rw [flatten_split hi', hfo]; simp
    · rw [flatten_set hi']; simp

end Go.Tm
end

/- (TmInv)
  The state of the pure machine, and the relation to the model's registers and memory.
-/
section
namespace Go.Tm

abbrev Key := List (Nat × Bool)

structure St where
  n : Nat
  regs : List (Nat × Key × RV)
  obs : List (Nat × Ob)
  lent : List Nat := []        -- objects that the caller has lent: they stay where they are

/-- What the caller has lent: blocks that may be written, and where the objects lie. -/
structure Lent where
  bl : List Nat
  hdr : Nat → Value
  bx : Nat → Nat
  no : Nat → Prop             -- blocks that nothing here refers to

def look {α : Type} : List (Nat × α) → Nat → Option α
  | [], _ => none
  | (k, a) :: l, i => bif Nat.beq k i then some a else look l i

structure Gam where
  hdr : Nat → Value
  fp : Nat → List Nat
  bx : Nat → Nat
  rs : List Nat               -- blocks of objects that are forgotten: nothing reads them
  no : Nat → Prop

def owned (Γ : Gam) (obs : List (Nat × Ob)) : List Nat :=
  Γ.rs ++ obs.flatMap fun p => match p.2 with | .box _ _ => [Γ.bx p.1] | .slot _ _ _ => Γ.fp p.1

def envOf (w : World) (Γ : Gam) (obs : List (Nat × Ob)) : Env :=
  { w := w, ok := fun b => b < w.heap.size ∧ b ∉ owned Γ obs ∧ ¬ Γ.no b, hdr := Γ.hdr, fp := Γ.fp, bx := Γ.bx, ob := look obs }

theorem look_mem {α : Type} : ∀ {l : List (Nat × α)} {i : Nat} {a : α}, look l i = some a → (i, a) ∈ l
  | [], _, _, h => by simp [look] at h
  | (k, a) :: l, i, b, h => by
    simp only [look] at h
    cases hk : Nat.beq k i with
    | true =>
      rw [hk] at h; simp only [cond_true, Option.some.injEq] at h
      have := Nat.eq_of_beq_eq_true hk; subst this; subst h; exact List.mem_cons_self
    | false => rw [hk] at h; exact List.mem_cons_of_mem _ (look_mem h)

theorem mem_look {α : Type} : ∀ {l : List (Nat × α)} {i : Nat} {a : α}, (l.map (·.1)).Nodup → (i, a) ∈ l → look l i = some a
  | (k, a) :: l, i, b, hn, h => by
    simp only [look]
    rcases List.mem_cons.1 h with h | h
    · cases h; simp
    · simp only [List.map_cons, List.nodup_cons] at hn
      cases hk : Nat.beq k i with
      | true =>
        have := Nat.eq_of_beq_eq_true hk; subst this
        exact absurd (List.mem_map.2 ⟨_, h, rfl⟩) hn.1
      | false => exact mem_look hn.2 h

theorem look_none {α : Type} {l : List (Nat × α)} {i : Nat} (h : i ∉ l.map (·.1)) : look l i = none := by
  cases hl : look l i with
  | none => rfl
  | some a => exact absurd (List.mem_map.2 ⟨_, look_mem hl, rfl⟩) h

structure Inv (w0 : World) (mu : Lent) (Γ : Gam) (st : St) (tmps : Array Value) (w : World) : Prop where
  size : tmps.size = st.n
  regs : ∀ r k rv, (r, k, rv) ∈ st.regs → (∀ q ∈ k, tmps.getD q.1 undef = .bool q.2) → VR (envOf w Γ st.obs) rv (tmps.getD r undef)
  off : ∀ r k rv, (r, k, rv) ∈ st.regs → (∃ q ∈ k, tmps.getD q.1 undef ≠ .bool q.2) → tmps.getD r undef = undef
  obs : ∀ o ob, (o, ob) ∈ st.obs → ObR (envOf w Γ st.obs) o ob
  ids : (st.obs.map (·.1)).Nodup
  nodup : (owned Γ st.obs).Nodup
  low : ∀ b ∈ owned Γ st.obs, w0.heap.size ≤ b ∨ b ∈ mu.bl
  frame : ∀ b, b < w0.heap.size → b ∉ mu.bl → w.heap[b]? = w0.heap[b]?
  grown : w0.heap.size ≤ w.heap.size
  same : w.os = w0.os ∧ w.tape = w0.tape ∧ w.output = w0.output
  pin : ∀ i ∈ st.lent, Γ.hdr i = mu.hdr i ∧ Γ.bx i = mu.bx i
  rlt : ∀ b ∈ Γ.rs, b < w.heap.size
  nop : Γ.no = mu.no ∧ ∀ b, mu.no b → b < w0.heap.size ∧ b ∉ mu.bl

theorem mem_owned_box {Γ : Gam} {obs : List (Nat × Ob)} {o : Nat} {t : Ty} {c : RV} (h : (o, Ob.box t c) ∈ obs) : Γ.bx o ∈ owned Γ obs :=
  List.mem_append.2 (.inr (List.mem_flatMap.2 ⟨_, h, by simp⟩))

theorem mem_owned_slot {Γ : Gam} {obs : List (Nat × Ob)} {o : Nat} {e : Ty} {d : Bool} {xs : List e.den} (h : (o, Ob.slot e d xs) ∈ obs) : ∀ b ∈ Γ.fp o, b ∈ owned Γ obs :=
  fun _ hb => List.mem_append.2 (.inr (List.mem_flatMap.2 ⟨_, h, hb⟩))

theorem Inv.lt {w0 : World} {mu : Lent} {Γ : Gam} {st : St} {tmps : Array Value} {w : World} (h : Inv w0 mu Γ st tmps w) : ∀ b ∈ owned Γ st.obs, b < w.heap.size := by
  intro b hb
  rcases List.mem_append.1 hb with hb | hb
  · exact h.rlt b hb
  obtain ⟨⟨o, ob⟩, hm, hb⟩ := List.mem_flatMap.1 hb
  have := h.obs o ob hm
  cases ob with
  | box t c =>
    obtain ⟨_, cs, ety, hh, _⟩ := this
    simp only [List.mem_singleton] at hb; subst hb
    exact (Array.getElem?_eq_some_iff.1 hh).1
  | slot e d xs => exact this.2.lt b hb

theorem ObR.mono {E E' : Env} {o : Nat} {ob : Ob} (hok : ∀ b, E.ok b → E'.ok b) (hs : ∀ b, E.ok b → E'.w.heap[b]? = E.w.heap[b]?)
    (hb : E'.bx o = E.bx o) (hh : E'.hdr o = E.hdr o) (hf : E'.fp o = E.fp o)
    (h : ObR E o ob)
    (hbox : ∀ t c, ob = .box t c → E'.w.heap[E.bx o]? = E.w.heap[E.bx o]? ∧ (∀ m ∈ c.ids, SameOb E E' m) ∧ (∀ m ∈ c.reads, ∀ b ∈ E.fp m, E'.w.heap[b]? = E.w.heap[b]?))
    (hslot : ∀ e d xs, ob = .slot e d xs → ∀ b ∈ E.fp o, E'.w.heap[b]? = E.w.heap[b]?) : ObR E' o ob := by
  cases ob with
  | box t c =>
    obtain ⟨hft, cs, ety, hheap, hc⟩ := h
    obtain ⟨h1, h2, h3⟩ := hbox t c rfl
    exact ⟨hft, cs, ety, by rw [hb, h1]; exact hheap, hc.mono hok hs h2 h3⟩
  | slot e d xs =>
    obtain ⟨hsz, hsl⟩ := h
    have h1 := hslot e d xs rfl
    refine ⟨hsz, ?_⟩
    rw [hh, hf]
    exact hsl.mono h1 fun cs x f hff ho => ho.mono hok hs (fun b hb => h1 b (hff b hb))

/-- The general step: a part of the registers stays; the objects are given anew. -/
theorem Inv.step {w0 : World} {mu : Lent} {Γ Γ' : Gam} {st st' : St} {tmps : Array Value} {w w' : World} (h : Inv w0 mu Γ st tmps w)
    (hn : st'.n = st.n)
    (hok : ∀ b, (envOf w Γ st.obs).ok b → (envOf w' Γ' st'.obs).ok b) (hs : ∀ b, (envOf w Γ st.obs).ok b → w'.heap[b]? = w.heap[b]?)
    (hreg : ∀ r k rv, (r, k, rv) ∈ st'.regs → (r, k, rv) ∈ st.regs ∧ (∀ m ∈ rv.ids, SameOb (envOf w Γ st.obs) (envOf w' Γ' st'.obs) m) ∧
      (∀ m ∈ rv.reads, ∀ e d xs, look st.obs m = some (.slot e d xs) → ∀ b ∈ Γ.fp m, w'.heap[b]? = w.heap[b]?))
    (hob : ∀ o ob, (o, ob) ∈ st'.obs → ObR (envOf w' Γ' st'.obs) o ob)
    (hids : (st'.obs.map (·.1)).Nodup) (hnd : (owned Γ' st'.obs).Nodup) (hlow : ∀ b ∈ owned Γ' st'.obs, w0.heap.size ≤ b ∨ b ∈ mu.bl)
    (hframe : ∀ b, b < w0.heap.size → b ∉ mu.bl → w'.heap[b]? = w0.heap[b]?) (hgr : w0.heap.size ≤ w'.heap.size)
    (hsame : w'.os = w0.os ∧ w'.tape = w0.tape ∧ w'.output = w0.output) (hpin : ∀ i ∈ st'.lent, Γ'.hdr i = mu.hdr i ∧ Γ'.bx i = mu.bx i) (hrlt : ∀ b ∈ Γ'.rs, b < w'.heap.size) (hnop : Γ'.no = Γ.no) : Inv w0 mu Γ' st' tmps w' where
  size := by rw [hn]; exact h.size
  regs := fun r k rv hm hk => by
    obtain ⟨h1, h2, h3⟩ := hreg r k rv hm
    have hv := h.regs r k rv h1 hk
    exact hv.mono hok hs h2 fun m hm b hb => by
      obtain ⟨e, d, xs, ho⟩ := hv.reads_ob m hm
      exact h3 m hm e d xs ho b hb
  off := fun r k rv hm hk => h.off r k rv (hreg r k rv hm).1 hk
  obs := hob
  ids := hids
  nodup := hnd
  low := hlow
  frame := hframe
  grown := hgr
  same := hsame
  pin := hpin
  rlt := hrlt
  nop := ⟨hnop.trans h.nop.1, h.nop.2⟩

/-! ### registers -/

def setRegs (regs : List (Nat × Key × RV)) (r : Nat) (k : Key) (rv : RV) : List (Nat × Key × RV) :=
  (r, k, rv) :: regs.filter fun e => !(Nat.beq e.1 r) && e.2.1.all fun q => !(Nat.beq q.1 r)

def St.set (st : St) (r : Nat) (k : Key) (rv : RV) : St := { st with regs := setRegs st.regs r k rv }

theorem getD_set_ne {a : Array Value} {r q : Nat} {v : Value} (h : r ≠ q) : (a.setIfInBounds r v).getD q undef = a.getD q undef := by
  simp only [Array.getD_eq_getD_getElem?]
  rw [Array.getElem?_setIfInBounds_ne h]

theorem getD_set_eq {a : Array Value} {r : Nat} {v : Value} (h : r < a.size) : (a.setIfInBounds r v).getD r undef = v := by
  simp [Array.getD_eq_getD_getElem?, h]

theorem Inv.set {w0 : World} {mu : Lent} {Γ : Gam} {st : St} {tmps : Array Value} {w : World} (h : Inv w0 mu Γ st tmps w) {r : Nat} {k : Key} {rv : RV} {v : Value}
    (hr : r < st.n) (hk : (k.all fun q => !(Nat.beq q.1 r)) = true) (hv : (∀ q ∈ k, tmps.getD q.1 undef = .bool q.2) → VR (envOf w Γ st.obs) rv v) (hoff : (∃ q ∈ k, tmps.getD q.1 undef ≠ .bool q.2) → v = undef) :
    Inv w0 mu Γ (st.set r k rv) (tmps.setIfInBounds r v) w where
  size := by simpa [St.set] using h.size
  regs := fun r' k' rv' hm hkk => by
    have hne : ∀ {x : Nat}, (!(Nat.beq x r)) = true → r ≠ x := fun {x} hx e => by
      subst e; simp at hx
    have hkey : ∀ {k' : Key}, (k'.all fun q => !(Nat.beq q.1 r)) = true → (∀ q ∈ k', (tmps.setIfInBounds r v).getD q.1 undef = .bool q.2) → ∀ q ∈ k', tmps.getD q.1 undef = .bool q.2 := by
      intro k' ha hh q hq
      rw [← hh q hq, getD_set_ne (hne (List.all_eq_true.1 ha q hq))]
    simp only [St.set, setRegs, List.mem_cons, Prod.mk.injEq, List.mem_filter, Bool.and_eq_true] at hm
    rcases hm with ⟨rfl, rfl, rfl⟩ | ⟨hm, h1, h2⟩
    · rw [getD_set_eq (by rw [h.size]; exact hr)]
      exact hv (hkey hk hkk)
    · rw [getD_set_ne (hne h1)]
      exact h.regs r' k' rv' hm (hkey h2 hkk)
  off := fun r' k' rv' hm hkk => by
    have hne : ∀ {x : Nat}, (!(Nat.beq x r)) = true → r ≠ x := fun {x} hx e => by
      subst e; simp at hx
    have hkey : ∀ {k' : Key}, (k'.all fun q => !(Nat.beq q.1 r)) = true → (∃ q ∈ k', (tmps.setIfInBounds r v).getD q.1 undef ≠ .bool q.2) → ∃ q ∈ k', tmps.getD q.1 undef ≠ .bool q.2 := by
      rintro k' ha ⟨q, hq, hh⟩
      rw [getD_set_ne (hne (List.all_eq_true.1 ha q hq))] at hh
      exact ⟨q, hq, hh⟩
    simp only [St.set, setRegs, List.mem_cons, Prod.mk.injEq, List.mem_filter, Bool.and_eq_true] at hm
    rcases hm with ⟨rfl, rfl, rfl⟩ | ⟨hm, h1, h2⟩
    · rw [getD_set_eq (by rw [h.size]; exact hr)]
      exact hoff (hkey hk hkk)
    · rw [getD_set_ne (hne h1)]
      exact h.off r' k' rv' hm (hkey h2 hkk)
  obs := h.obs
  ids := h.ids
  nodup := h.nodup
  low := h.low
  frame := h.frame
  grown := h.grown
  same := h.same
  pin := h.pin
  rlt := h.rlt
  nop := h.nop

/-- A register's value is forgotten. -/
def St.clear (st : St) (r : Nat) : St := { st with regs := st.regs.filter fun e => !(Nat.beq e.1 r) && e.2.1.all fun q => !(Nat.beq q.1 r) }

theorem Inv.clear {w0 : World} {mu : Lent} {Γ : Gam} {st : St} {tmps : Array Value} {w : World} (h : Inv w0 mu Γ st tmps w) (r : Nat) (v : Value) :
    Inv w0 mu Γ (st.clear r) (tmps.setIfInBounds r v) w where
  size := by simpa [St.clear] using h.size
  regs := fun r' k' rv' hm hkk => by
    have hne : ∀ {x : Nat}, (!(Nat.beq x r)) = true → r ≠ x := fun {x} hx e => by
      subst e; simp at hx
    simp only [St.clear, List.mem_filter, Bool.and_eq_true] at hm
    rw [getD_set_ne (hne hm.2.1)]
    refine h.regs r' k' rv' hm.1 fun q hq => ?_
    rw [← hkk q hq, getD_set_ne (hne (List.all_eq_true.1 hm.2.2 q hq))]
  off := fun r' k' rv' hm hkk => by
    have hne : ∀ {x : Nat}, (!(Nat.beq x r)) = true → r ≠ x := fun {x} hx e => by
      subst e; simp at hx
    simp only [St.clear, List.mem_filter, Bool.and_eq_true] at hm
    rw [getD_set_ne (hne hm.2.1)]
    obtain ⟨q, hq, hh⟩ := hkk
    rw [getD_set_ne (hne (List.all_eq_true.1 hm.2.2 q hq))] at hh
    exact h.off r' k' rv' hm.1 ⟨q, hq, hh⟩
  obs := h.obs
  ids := h.ids
  nodup := h.nodup
  low := h.low
  frame := h.frame
  grown := h.grown
  same := h.same
  pin := h.pin
  rlt := h.rlt
  nop := h.nop

theorem Inv.fewer {w0 : World} {mu : Lent} {Γ : Gam} {st : St} {tmps : Array Value} {w : World} (h : Inv w0 mu Γ st tmps w) {R : List (Nat × Key × RV)} (hR : ∀ e ∈ R, e ∈ st.regs) :
    Inv w0 mu Γ { st with regs := R } tmps w where
  size := h.size
  regs := fun r k rv hm => h.regs r k rv (hR _ hm)
  off := fun r k rv hm => h.off r k rv (hR _ hm)
  obs := h.obs
  ids := h.ids
  nodup := h.nodup
  low := h.low
  frame := h.frame
  grown := h.grown
  same := h.same
  pin := h.pin
  rlt := h.rlt
  nop := h.nop

/-! ### values that are not to be read any more -/

def RV.tyOf : RV → Ty
  | .v t _ => t
  | .nl e => .sl e
  | .rf _ e _ => .sl e
  | .vw _ _ t _ => t
  | .dd t => t
  | _ => .bool

def RV.kil (f : RV → Bool) : RV → RV
  | .pr a b => .pr (a.kil f) (b.kil f)
  | .tp a => .tp (a.kil f)
  | .un => .un
  | .v t x => if f (.v t x) then .dd t else .v t x
  | .nl e => if f (.nl e) then .dd (.sl e) else .nl e
  | .rf s e n => if f (.rf s e n) then .dd (.sl e) else .rf s e n
  | .vw s p t x => if f (.vw s p t x) then .dd t else .vw s p t x
  | .bi o p => if f (.bi o p) then .dd .bool else .bi o p
  | .ptr s p => if f (.ptr s p) then .dd .bool else .ptr s p
  | .pv t x => if f (.pv t x) then .dd .bool else .pv t x
  | .fn g c => if f (.fn g c) then .dd .bool else .fn g c
  | .dd t => .dd t

def RV.leaf : RV → Bool
  | .pr _ _ => false
  | .tp _ => false
  | .un => false
  | _ => true

theorem RV.kil_leaf (f : RV → Bool) (c : RV) (h : c.leaf = true) : c.kil f = c ∨ (c.kil f = .dd c.tyOf) := by
  cases c <;> simp only [RV.kil, RV.tyOf, true_or, RV.leaf, Bool.false_eq_true] at h ⊢ <;> (split <;> simp)

theorem RV.size_tyOf (c : RV) (h : c.leaf = true) : c.size = c.tyOf.size := by
  cases c <;> first | rfl | cases h

theorem RV.agg_tyOf (c : RV) (h : c.leaf = true) : c.agg = c.tyOf.agg := by
  cases c <;> first | rfl | cases h

theorem CR.kil_of_leaf {E : Env} {f : RV → Bool} {c : RV} {vs : List Value} (h : CR E c vs) (hl : c.leaf = true) : CR E (c.kil f) vs := by
  have hn := h.len
  rcases RV.kil_leaf f c hl with e | e
  · rw [e]; exact h
  · rw [e]
    rw [RV.size_tyOf c hl] at hn
    exact hn

theorem CR.kil {E : Env} {f : RV → Bool} : ∀ {c : RV} {vs : List Value}, CR E c vs → CR E (c.kil f) vs
  | .pr a b, vs, h => by
    obtain ⟨v1, v2, rfl, h1, h2⟩ := h
    exact ⟨v1, v2, rfl, h1.kil, h2.kil⟩
  | .tp _, _, h => h.elim
  | .un, vs, h => h
  | .v t x, vs, h | .nl _, vs, h | .rf .., vs, h | .vw .., vs, h | .bi .., vs, h | .ptr .., vs, h | .pv .., vs, h | .fn .., vs, h | .dd _, vs, h => h.kil_of_leaf rfl

theorem RV.kil_agg_leaf (f : RV → Bool) (c : RV) (hl : c.leaf = true) : (c.kil f).agg = c.agg := by
  rcases RV.kil_leaf f c hl with e | e
  · exact congrArg RV.agg e
  · rw [e, RV.agg_tyOf c hl]; rfl

theorem RV.kil_agg (f : RV → Bool) (c : RV) : (c.kil f).agg = c.agg := by
  cases c with
  | pr a b => rfl
  | tp a => rfl
  | un => rfl
  | _ => exact RV.kil_agg_leaf f _ rfl

theorem VR1.kil {E : Env} {f : RV → Bool} {c : RV} {v : Value} (h : VR1 E c v) : VR1 E (c.kil f) v := by
  obtain ⟨vs, h1, h2⟩ := h
  exact ⟨vs, h1.kil, by rw [RV.kil_agg]; exact h2⟩

theorem TR.kil {E : Env} {f : RV → Bool} : ∀ {c : RV} {vs : List Value}, TR E c vs → TR E (c.kil f) vs
  | .un, _, h => h
  | .pr a b, _, h => by
    obtain ⟨v, rest, rfl, h1, h2⟩ := h
    exact ⟨v, rest, rfl, h1.kil, h2.kil⟩
  | .v .., _, h | .nl .., _, h | .rf .., _, h | .vw .., _, h | .bi .., _, h | .ptr .., _, h | .pv .., _, h | .fn .., _, h | .dd .., _, h | .tp .., _, h => h.elim

theorem VR.of1 {E : Env} {c : RV} {v : Value} (hn : ∀ a, c ≠ .tp a) (h : VR1 E c v) : VR E c v := by
  cases c <;> first | exact h | exact absurd rfl (hn _)

theorem RV.kil_not_tp {f : RV → Bool} {c : RV} (hn : ∀ a, c ≠ .tp a) (a : RV) : c.kil f ≠ .tp a := by
  cases c <;> simp only [RV.kil] <;> (try split) <;> first | exact absurd rfl (hn _) | simp

theorem VR.kil {E : Env} {f : RV → Bool} {c : RV} {v : Value} (h : VR E c v) : VR E (c.kil f) v := by
  by_cases hc : ∃ a, c = .tp a
  · obtain ⟨a, rfl⟩ := hc
    obtain ⟨vs, rfl, ht⟩ := h
    exact ⟨vs, rfl, ht.kil⟩
  · have hn : ∀ a, c ≠ .tp a := fun a e => hc ⟨a, e⟩
    refine VR.of1 (RV.kil_not_tp hn) (VR1.kil ?_)
    cases c <;> first | exact h | exact absurd rfl (hn _)

theorem RV.kil_fits {f : RV → Bool} : ∀ {c : RV} {t : Ty}, c.fits t = true → (c.kil f).fits t = true
  | .pr a b, .pr x y, h => by
    simp only [RV.fits, Bool.and_eq_true] at h
    simp only [RV.kil, RV.fits, Bool.and_eq_true]
    exact ⟨RV.kil_fits h.1, RV.kil_fits h.2⟩
  | .un, .un, _ => rfl
  | .v t x, u, h | .nl _, u, h | .rf .., u, h | .vw .., u, h | .dd _, u, h => by
    simp only [RV.kil]
    first | exact h | (split <;> simpa [RV.fits] using h)
  | .pr _ _, .int _, h | .pr _ _, .bool, h | .pr _ _, .str, h | .pr _ _, .sl _, h | .pr _ _, .un, h => by simp [RV.fits] at h
  | .un, .int _, h | .un, .bool, h | .un, .str, h | .un, .sl _, h | .un, .pr _ _, h => by simp [RV.fits] at h
  | .bi _ _, _, h | .ptr _ _, _, h | .pv _ _, _, h | .fn _ _, _, h | .tp _, _, h => by simp [RV.fits] at h

def Ob.kil (f : RV → Bool) : Ob → Ob
  | .box t c => .box t (c.kil f)
  | ob => ob

def St.kil (f : RV → Bool) (st : St) : St :=
  { st with regs := st.regs.map fun e => (e.1, e.2.1, e.2.2.kil f), obs := st.obs.map fun e => (e.1, e.2.kil f) }

theorem owned_kil (Γ : Gam) (f : RV → Bool) (obs : List (Nat × Ob)) : owned Γ (obs.map fun e => (e.1, e.2.kil f)) = owned Γ obs := by
  unfold owned
  rw [List.flatMap_map]
  congr 2
  funext p
  cases p.2 <;> rfl

theorem look_kil (f : RV → Bool) : ∀ (obs : List (Nat × Ob)) (m : Nat), look (obs.map fun e => (e.1, e.2.kil f)) m = (look obs m).map (Ob.kil f)
  | [], _ => rfl
  | (k, a) :: l, m => by
    simp only [List.map_cons, look]
    cases Nat.beq k m with
    | true => rfl
    | false => exact look_kil f l m

theorem SameOb.kil (w : World) (Γ : Gam) (f : RV → Bool) (obs : List (Nat × Ob)) (m : Nat) : SameOb (envOf w Γ obs) (envOf w Γ (obs.map fun e => (e.1, e.2.kil f))) m where
  hdr := rfl
  fp := rfl
  bx := rfl
  slot := fun e d xs h => ⟨d, xs, by
    have h' : look obs m = some (.slot e d xs) := h
    show look _ m = _
    rw [look_kil, h']; rfl, rfl⟩
  box := fun t c h => ⟨c.kil f, by
    have h' : look obs m = some (.box t c) := h
    show look _ m = _
    rw [look_kil, h']; rfl⟩

theorem Inv.kil {w0 : World} {mu : Lent} {Γ : Gam} {st : St} {tmps : Array Value} {w : World} (h : Inv w0 mu Γ st tmps w) (f : RV → Bool) :
    Inv w0 mu Γ (st.kil f) tmps w := by
  have hok : ∀ b, (envOf w Γ st.obs).ok b → (envOf w Γ (st.kil f).obs).ok b := fun b hb => ⟨hb.1, by simp only [St.kil]; rw [owned_kil]; exact hb.2⟩
  have hsm := SameOb.kil w Γ f st.obs
  refine ⟨h.size, ?_, ?_, ?_, ?_, ?_, ?_, h.frame, h.grown, h.same, h.pin, h.rlt, h.nop⟩
  · intro r k rv hm hk
    simp only [St.kil, List.mem_map, Prod.mk.injEq] at hm
    obtain ⟨⟨r', k', rv'⟩, hm, rfl, rfl, rfl⟩ := hm
    have h1 := (h.regs _ _ _ hm hk).mono (E' := envOf w Γ (st.kil f).obs) hok (fun _ _ => rfl) (fun m _ => hsm m) (fun _ _ _ _ => rfl)
    exact h1.kil
  · intro r k rv hm hk
    simp only [St.kil, List.mem_map, Prod.mk.injEq] at hm
    obtain ⟨⟨r', k', rv'⟩, hm, rfl, rfl, rfl⟩ := hm
    exact h.off _ _ _ hm hk
  · intro o ob hm
    simp only [St.kil, List.mem_map, Prod.mk.injEq] at hm
    obtain ⟨⟨o', ob'⟩, hm, rfl, rfl⟩ := hm
    have h1 := (h.obs _ _ hm).mono (E' := envOf w Γ (st.kil f).obs) hok (fun _ _ => rfl) rfl rfl rfl (fun t c _ => ⟨rfl, fun m _ => hsm m, fun _ _ _ _ => rfl⟩) (fun _ _ _ _ _ _ => rfl)
    cases ob' with
    | box t c =>
      obtain ⟨hf, cs, ety, hh, hc⟩ := h1
      exact ⟨RV.kil_fits hf, cs, ety, hh, hc.kil⟩
    | slot e d xs => exact h1
  · simp only [St.kil, List.map_map]; exact h.ids
  · simp only [St.kil]; rw [owned_kil]; exact h.nodup
  · simp only [St.kil]; rw [owned_kil]; exact h.low

end Go.Tm
end

/- (TmOps)
  The operations of the pure machine.
-/
section
namespace Go.Tm

/-! ### types of the program -/

def fieldsTy (g : TypeId → Option Ty) : List Field → Nat → Option Ty
  | [], _ => some .un
  | f :: fs, off =>
    if f.offset = off then
      match g f.type with
      | some a => (fieldsTy g fs (off + a.size)).map (.pr a ·)
      | none => none
    else none

def Ty.zcells : Ty → List Value
  | .int k => [.int k 0]
  | .bool => [.bool false]
  | .str => [.string ByteArray.empty]
  | .sl _ => [.slice none 0 0]
  | .un => []
  | .pr a b => a.zcells ++ b.zcells

/-- The cells begin with the zero value of the type: what follows. -/
def zeroOk : Ty → List Value → Option (List Value)
  | .int k, .int k' n :: r => if k = k' ∧ n = 0 then some r else none
  | .bool, .bool false :: r => some r
  | .str, .string s :: r => if s.size = 0 then some r else none
  | .sl _, .slice none 0 0 :: r => some r
  | .un, r => some r
  | .pr a b, vs => match zeroOk a vs with | some r => zeroOk b r | none => none
  | _, _ => none

def tyOf (P : Program) : Nat → TypeId → Option Ty
  | 0, _ => none
  | n + 1, t =>
    match P.info? t with
    | none => none
    | some i =>
      let ty : Option Ty := match P.underlying t with
        | some (.int k) => some (.int k)
        | some .bool => some .bool
        | some .string => some .str
        | some (.slice e) => (tyOf P n e).map .sl
        | some (.struct fs) => fieldsTy (tyOf P n) fs.toList 0
        | _ => none
      match ty, i.zero with
      | some ty, some z =>
        match zeroOk ty z.cells.toList with
        | some [] => if i.size = ty.size ∧ i.bytes ≤ 32 * ty.size then some ty else none
        | _ => none
      | _, _ => none

/-! ### what a function is known to do -/

/-- Any datum with its type. -/
abbrev DV := (t : Ty) × t.den

/-- How slices inside are held: shared, owned at every depth, or nothing is known (not to be read). -/
inductive Md where
  | sh | ow | de
  deriving DecidableEq

inductive RK where
  | val (t : Ty) (m : Md)
  | box (t : Ty) (m : Md)                         -- a pointer to a new variable

inductive PK where
  | sh (t : Ty)                                   -- read only
  | mv (t : Ty)                                   -- given away
  | mu (t : Ty)                                   -- lent: the elements of its slices may be written, at every depth
  | bx (t : Ty) (m : Md)                          -- a pointer to a variable, lent
  | fn (f : FuncId) (caps : List (Ty × Md))       -- a function value that has captured variables, lent

structure FS where
  ps : List PK
  rs : List RK
  pre : List DV → Prop
  F : List DV → List DV × List DV                 -- the results; what the lent data are afterwards

structure Cfg where
  tys : List (TypeId × Ty)
  cmp : List (TypeId × Ty)                        -- struct types whose values are compared
  env : List (FuncId × FS)
  gl : Nat → Option Obj := fun _ => none          -- what package-level variables hold

def arg (t : Ty) : List DV → Nat → t.den
  | [], _ => t.dflt
  | a :: _, 0 => (castTo t a.2).getD t.dflt
  | _ :: l, i + 1 => arg t l i

/-! ### operands -/

def keyHas (k : Key) (q : Nat × Bool) : Bool := k.any fun x => Nat.beq x.1 q.1 && (x.2 == q.2)

def litRV : Value → Option RV
  | .int k n => if k.min ≤ n ∧ n ≤ k.max then some (.v (.int k) n) else none
  | .bool b => some (.v .bool b)
  | .string s => if s.size ≤ lenMax then some (.v .str s) else none
  | _ => none

/-- An operand's value under guards; a nil slice by the type that is expected. -/
def St.val (st : St) (key : Key) (hint : Option Ty) : Operand → Option RV
  | .tmp t =>
    match look st.regs t with
    | some (k, rv) => bif k.all (keyHas key) then some rv else none
    | none => none
  | .const v =>
    match litRV v, v, hint with
    | some rv, _, _ => some rv
    | none, .slice none 0 0, some (.sl e) => some (.nl e)
    | _, _, _ => none
  | .func f => some (.fn f [])
  | .global _ => none

/-- Data of a value for reading. -/
def St.mat (st : St) : (t : Ty) → RV → Option t.den
  | t, .v _ x => castTo t x
  | t, .vw _ _ _ x => castTo t x
  | .sl _, .nl _ => some []
  | t, .rf s _ _ =>
    match look st.obs s with
    | some (.slot e _ xs) => castTo (t := .sl e) t xs
    | _ => none
  | .pr a b, .pr x y =>
    match st.mat a x, st.mat b y with
    | some p, some q => some (p, q)
    | _, _ => none
  | .un, .un => some ()
  | _, _ => none

/-! ### operations that change no object -/

noncomputable def intOp (op : BinOp) (k : IntKind) (a b : Int) : Option (RV × Prop) :=
  match op with
  | .add => some (.v (.int k) (D.add k a b), True)
  | .sub => some (.v (.int k) (D.sub k a b), True)
  | .mul => some (.v (.int k) (D.mul k a b), True)
  | .quo => some (.v (.int k) (D.quo k a b), D.nz b)
  | .rem => some (.v (.int k) (D.rem a b), D.nz b)
  | .and => some (.v (.int k) (D.band k a b), True)
  | .or => some (.v (.int k) (D.bor k a b), True)
  | .xor => some (.v (.int k) (D.bxor k a b), True)
  | .eql => some (.v .bool (D.eq a b), True)
  | .neq => some (.v .bool (D.ne a b), True)
  | .lss => some (.v .bool (D.lt a b), True)
  | .leq => some (.v .bool (D.le a b), True)
  | .gtr => some (.v .bool (D.lt b a), True)
  | .geq => some (.v .bool (D.le b a), True)
  | _ => none

noncomputable def shiftOp (op : BinOp) (k : IntKind) (a b : Int) : Option (RV × Prop) :=
  match op with
  | .shl => some (.v (.int k) (D.shl k a b), D.nn b)
  | .shr => some (.v (.int k) (D.shr k a b), D.nn b)
  | _ => none

noncomputable def strOp (op : BinOp) (a b : ByteArray) : Option (RV × Prop) :=
  match op with
  | .add => some (.v .str (D.sapp a b), D.sroom a b)
  | .eql => some (.v .bool (D.seq a b), True)
  | .neq => some (.v .bool (D.sne a b), True)
  | .lss => some (.v .bool (D.slt a b), True)
  | _ => none

noncomputable def binRV (c : Cfg) (op : BinOp) (xt : TypeId) : RV → RV → Option (RV × Prop)
  | .v (.int k) a, .v (.int k') b =>
    match op with
    | .shl | .shr => shiftOp op k a b
    | _ => if k = k' then intOp op k a b else none
  | .v .str a, .v .str b => strOp op a b
  | .v .bool a, .v .bool b =>
    match op, look c.tys xt with
    | .eql, some .bool => some (.v .bool (D.beq a b), True)
    | .neq, some .bool => some (.v .bool (D.bne a b), True)
    | _, _ => none
  | .v (.pr t u) x, .v (.pr t' u') y =>
    match castTo (.pr t u) (t := .pr t' u') y, look c.cmp xt with
    | some y, some z =>
      if z = .pr t u then
        match op with
        | .eql => some (.v .bool (D.eqv (.pr t u) x y), True)
        | .neq => some (.v .bool (D.neqv (.pr t u) x y), True)
        | _ => none
      else none
    | _, _ => none
  | _, _ => none

def fieldPath : Nat → List Bool
  | 0 => [false]
  | n + 1 => true :: fieldPath n

def stepOf : Bool → Step
  | false => .l
  | true => .r

noncomputable def getV (t : Ty) (x : t.den) (p : List Bool) : Option DV := getS t x (p.map stepOf)

def tyAt : Ty → List Step → Option Ty
  | t, [] => some t
  | .pr a _, .l :: p => tyAt a p
  | .pr _ b, .r :: p => tyAt b p
  | .sl e, .ix _ :: p => tyAt e p
  | _, _ => none

/-- The type of what a pointer points to. -/
def St.tgt (st : St) : RV → Option Ty
  | .bi o p =>
    match look st.obs o with
    | some (.box t _) => (t.offB p).map (·.1)
    | _ => none
  | .ptr s (.ix _ :: p) =>
    match look st.obs s with
    | some (.slot e _ _) => tyAt e p
    | _ => none
  | .pv t _ => some t
  | _ => none

/-- The value at an address. -/
noncomputable def St.load (st : St) : RV → Option RV
  | .bi o p =>
    match look st.obs o with
    | some (.box _ c) => c.get p
    | _ => none
  | .ptr s (.ix i :: p) =>
    match look st.obs s with
    | some (.slot e d xs) =>
      match getS e (D.elt e xs i) p with
      | some ⟨u, y⟩ =>
        bif u.flat then some (.v u y)
        else bif d then some (.vw s (some (.ix i :: p)) u y)
        else bif hasIx p then none else some (.v u y)
      | none => none
    | _ => none
  | .pv t x => some (.v t x)
  | _ => none

def RV.noDead : RV → Bool
  | .dd _ => false
  | .pr a b => a.noDead && b.noDead
  | .tp a => a.noDead
  | _ => true

noncomputable def fieldAddrRV (k : Nat) : RV → Option RV
  | .bi o p => some (.bi o (p ++ fieldPath k))
  | .ptr s p => some (.ptr s (p ++ (fieldPath k).map stepOf))
  | .pv t x => (getV t x (fieldPath k)).map fun y => .pv y.1 y.2
  | _ => none

def tupAt : RV → Nat → Option RV
  | .pr a _, 0 => some a
  | .pr _ b, i + 1 => tupAt b i
  | _, _ => none

/-- A struct's value out of the values of its parts. -/
def joinV : Ty → RV → RV
  | .pr a b, .pr x y =>
    match joinV a x, joinV b y with
    | .v t p, .v u q => .v (.pr t u) (p, q)
    | x', y' => .pr x' y'
  | .un, .un => .v .un ()
  | _, x => x

def zeroRV : Ty → RV
  | .sl e => .nl e
  | .pr a b => bif (Ty.pr a b).flat then .v (.pr a b) (Ty.dflt (.pr a b)) else .pr (zeroRV a) (zeroRV b)
  | .int k => .v (.int k) (0 : Int)
  | .bool => .v .bool false
  | .str => .v .str ByteArray.empty
  | .un => .v .un ()

/-- The parts of a struct, laid into its zero value. -/
def buildRV (ty : Ty) : List (Nat × RV) → RV → Option RV
  | [], r => some r
  | (k, x) :: l, r =>
    match ty.offB (fieldPath k), r.put (fieldPath k) x with
    | some (u, _), some r' => bif x.fits u && x.noDead then buildRV ty l r' else none
    | _, _ => none

def allSome {α β : Type} (f : α → Option β) : List α → Option (List β)
  | [] => some []
  | a :: l =>
    match f a, allSome f l with
    | some b, some bs => some (b :: bs)
    | _, _ => none

def bnd : Option RV → Int → Option Int
  | none, d => some d
  | some (.v (.int _) n), _ => some n
  | _, _ => none

noncomputable def sliceRV (lo hi : Option RV) : RV → Option (RV × Prop)
  | .v .str s =>
    match bnd lo 0, bnd hi (D.slen s) with
    | some a, some b => some (.v .str (D.ssub s a b), D.cut2 a b (D.scnt s))
    | _, _ => none
  | .v (.sl e) xs =>
    match bnd lo 0, bnd hi (D.len e xs) with
    | some a, some b => some (.v (.sl e) (D.cut e xs a b), D.cut2 a b (D.cnt e xs))
    | _, _ => none
  | .vw s _ (.sl e) xs =>
    match bnd lo 0, bnd hi (D.len e xs) with
    | some a, some b => some (.vw s none (.sl e) (D.cut e xs a b), D.cut2 a b (D.cnt e xs))
    | _, _ => none
  | _ => none

/-- The slice of a slot as a view. -/
def St.asView (st : St) : RV → RV
  | .rf s e n =>
    match look st.obs s with
    | some (.slot e' _ xs) => .vw s none (.sl e') xs
    | _ => .rf s e n
  | x => x

/-- 's[:0:0]' -/
def isZeroCut : Option Operand → Option Operand → Option Operand → Bool
  | none, some (.const (.int .i64 n)), some (.const (.int .i64 m)) => decide (n = 0) && decide (m = 0)
  | _, _, _ => false

def nlOf : Ty → Option (RV × Prop)
  | .sl e => some (.nl e, True)
  | _ => none

noncomputable def lenRV : RV → Option RV
  | .v .str s => some (.v (.int .i64) (D.slen s))
  | .v (.sl e) xs => some (.v (.int .i64) (D.len e xs))
  | .vw _ _ (.sl e) xs => some (.v (.int .i64) (D.len e xs))
  | .rf _ _ n => some (.v (.int .i64) (D.int n))
  | .nl _ => some (.v (.int .i64) (0 : Int))
  | _ => none

def biOf : RV → Option Nat
  | .bi o [] => some o
  | _ => none

/-- The shared arguments' data. -/
def St.args (st : St) (key : Key) : List PK → List Operand → Option (List DV)
  | [], [] => some []
  | .sh t :: ps, x :: xs =>
    match st.val key (some t) x with
    | some rv =>
      match st.mat t rv, st.args key ps xs with
      | some d, some ds => some (⟨t, d⟩ :: ds)
      | _, _ => none
    | none => none
  | _, _ => none

def resRV : List RK → List DV → Option RV
  | [], [] => some .un
  | .val t m :: rs, d :: ds =>
    bif t.flat && !(decide (m = .de)) then
      match castTo t d.2, resRV rs ds with
      | some x, some r => some (.pr (.v t x) r)
      | _, _ => none
    else none
  | _, _ => none

/-- One result stands for itself; none or several are a tuple. -/
def oneOrTup : RV → RV
  | .pr a .un => a
  | r => .tp r

/-- An operation that changes no object. -/
noncomputable def St.quiet (c : Cfg) (st : St) (key : Key) (o : Oper) : Option (RV × Prop) :=
  match o.op with
  | .move x | .assign x => (st.val key (look c.tys o.type) x).map (·, True)
  | .pick q x y =>
    match st.val key none q, o.type with
    | some (.v .bool b), _ =>
      match q with
      | .tmp r =>
        match st.val ((r, true) :: key) none x, st.val ((r, false) :: key) none y with
        | some (.v t p), some (.v _ q) => (castTo t q).map fun q => (.v t (D.ife t b p q), True)
        | _, _ => none
      | _ => none
    | _, _ => none
  | .binOp op xt x y _ =>
    match st.val key none x, st.val key none y with
    | some a, some b => binRV c op xt a b
    | _, _ => none
  | .unOp op _ x =>
    match op, st.val key none x with
    | .not, some (.v .bool b) => some (.v .bool (D.not b), True)
    | .neg, some (.v (.int k) n) => some (.v (.int k) (D.neg k n), True)
    | _, _ => none
  | .convert src dst x =>
    match look c.tys src, look c.tys dst, st.val key none x with
    | some _, some (.int k), some (.v (.int _) n) => some (.v (.int k) (D.wrap k n), True)
    | some (.sl (.int .u8)), some .str, some rv => (st.mat (.sl (.int .u8)) rv).map fun xs => (.v .str (D.b2s xs), True)
    | _, _, _ => none
  | .field xt x k =>
    match st.val key none x, look c.tys xt with
    | some rv, some ty => bif rv.fits ty then (rv.get (fieldPath k)).map (·, True) else none
    | _, _ => none
  | .fieldAddr xt x k =>
    match st.val key none x, look c.tys xt with
    | some rv, some ty =>
      if st.tgt rv = some ty then
        match ty.offB (fieldPath k) with
        | some (u, _) => if 0 < u.size then (fieldAddrRV k rv).map (·, True) else none
        | none => none
      else none
    | _, _ => none
  | .load t x =>
    match st.val key none x, look c.tys t with
    | some rv, some ty => if st.tgt rv = some ty then (st.load rv).map (·, True) else none
    | _, _ => none
  | .nilCheck x =>
    match st.val key none x with
    | some (.bi o p) => some (.bi o p, True)
    | some (.ptr s p) => some (.ptr s p, True)
    | some (.pv t x) => some (.pv t x, True)
    | _ => none
  | .indexAddr t x i =>
    match st.val key none x, st.val key none i, look c.tys t with
    | some (.rf s e n), some (.v (.int _) i), some (.sl e') => if e = e' then some (.ptr s [.ix (D.nat i)], D.inR i n) else none
    | some (.vw s (some p) (.sl e) xs), some (.v (.int _) i), some (.sl e') =>
      match look st.obs s with
      | some (.slot _ true _) => if e = e' then some (.ptr s (p ++ [.ix (D.nat i)]), D.inR i (D.cnt e xs)) else none
      | _ => none
    | some (.v (.sl e) xs), some (.v (.int _) i), some (.sl e') => if e = e' then some (.pv e (D.get e xs i), D.inR i (D.cnt e xs)) else none
    | _, _, _ => none
  | .index t x i =>
    match st.val key none x, st.val key none i, look c.tys t with
    | some (.v .str s), some (.v (.int _) i), some .str => some (.v (.int .u8) (D.sat s i), D.inR i (D.scnt s))
    | _, _, _ => none
  | .extract x i =>
    match st.val key none x with
    | some (.tp a) => (tupAt a i).map (·, True)
    | _ => none
  | .makeFunc (.func f) first caps =>
    match first.toList, allSome (fun x => (st.val key none x).bind biOf) caps.toList with
    | [], some os => some (.fn f os, True)
    | _, _ => none
  | .build t ps =>
    match look c.tys t, allSome (fun (x : Nat × Operand) => (st.val key none x.2).map (x.1, ·)) ps.toList with
    | some ty, some rs => bif ty.agg then (buildRV ty rs (zeroRV ty)).map fun r => (joinV ty r, True) else none
    | _, _ => none
  | .slice t x lo hi mx =>
    match st.val key none x, (match lo with | none => some none | some y => (st.val key none y).map some), (match hi with | none => some none | some y => (st.val key none y).map some), look c.tys t with
    | some rv, some lo', some hi', some ty => bif rv.fits ty && rv.noDead then (bif isZeroCut lo hi mx then nlOf ty else bif mx.isSome then none else sliceRV lo' hi' (st.asView rv)) else none
    | _, _, _, _ => none
  | .call { callee := .builtin .len, args, argTypes } =>
    match args.toList, argTypes.toList with
    | [x], [t] =>
      match st.val key none x, look c.tys t with
      | some rv, some ty => bif rv.fits ty && rv.noDead then (lenRV rv).map (·, True) else none
      | _, _ => none
    | _, _ => none
  | .call { callee := .builtin .max, args, .. } =>
    match args.toList with
    | [x, y] =>
      match st.val key none x, st.val key none y with
      | some (.v (.int k) a), some (.v (.int k') b) => if k = k' then some (.v (.int k) (D.max a b), True) else none
      | _, _ => none
    | _ => none
  | .call { callee := .builtin .min, args, .. } =>
    match args.toList with
    | [x, y] =>
      match st.val key none x, st.val key none y with
      | some (.v (.int k) a), some (.v (.int k') b) => if k = k' then some (.v (.int k) (D.min a b), True) else none
      | _, _ => none
    | _ => none
  | .call { callee := .value g, args, .. } =>
    match st.val key none g with
    | some (.fn f []) =>
      match look c.env f with
      | some fs =>
        match st.args key fs.ps args.toList with
        | some ds => (resRV fs.rs (fs.F ds).1).map fun r => (oneOrTup r, fs.pre ds)
        | none => none
      | none => none
    | _ => none
  | _ => none

end Go.Tm
end

/- (TmSpec)
  What it means that a function keeps to its description.
-/
section
namespace Go.Tm

def valOf (t : Ty) (vs : List Value) (v : Value) : Prop := if t.agg then v = .agg vs.toArray else vs = [v]

def Held (w : World) (ok : Nat → Prop) (m : Md) (t : Ty) (vs : List Value) (x : t.den) (fp : List Nat) : Prop :=
  match m with
  | .sh => Rep w ok t vs x ∧ fp = []
  | .ow => Own w ok true t vs x fp
  | .de => (vs.length = t.size ∧ t.wf x) ∧ fp = []

def BoxR (w : World) (ok : Nat → Prop) (m : Md) (t : Ty) (v : Value) (x : t.den) (fp : List Nat) : Prop :=
  ∃ b cs ety f, v = .pointer (some ⟨b, 0, none⟩) ∧ w.heap[b]? = some (.cells cs ety (0, 0)) ∧ Held w ok m t cs.toList x f ∧ fp = b :: f

def CapsR (w : World) (ok : Nat → Prop) : List (Ty × Md) → List Value → List DV → List Nat → Prop
  | [], [], [], fp => fp = []
  | (t, m) :: cs, v :: vs, d :: ds, fp => ∃ x f1 f2, d = ⟨t, x⟩ ∧ BoxR w ok m t v x f1 ∧ CapsR w ok cs vs ds f2 ∧ fp = f1 ++ f2
  | _, _, _, _ => False

def ArgsR (w : World) (ok : Nat → Prop) : List PK → List Value → List DV → List Nat → Prop
  | [], [], ds, fp => ds = [] ∧ fp = []
  | .sh t :: ps, v :: vs, ds, fp => ∃ x rest cells, ds = ⟨t, x⟩ :: rest ∧ valOf t cells v ∧ Rep w ok t cells x ∧ ArgsR w ok ps vs rest fp
  | .mv t :: ps, v :: vs, ds, fp => ∃ x rest cells f1 f2, ds = ⟨t, x⟩ :: rest ∧ valOf t cells v ∧ Own w ok true t cells x f1 ∧ ArgsR w ok ps vs rest f2 ∧ fp = f1 ++ f2
  | .mu t :: ps, v :: vs, ds, fp => ∃ x rest cells f1 f2, ds = ⟨t, x⟩ :: rest ∧ valOf t cells v ∧ Own w ok true t cells x f1 ∧ ArgsR w ok ps vs rest f2 ∧ fp = f1 ++ f2
  | .bx t m :: ps, v :: vs, ds, fp => ∃ x rest f1 f2, ds = ⟨t, x⟩ :: rest ∧ BoxR w ok m t v x f1 ∧ ArgsR w ok ps vs rest f2 ∧ fp = f1 ++ f2
  | .fn f caps :: ps, v :: vs, ds, fp => ∃ ptrs d1 rest f1 f2, ds = d1 ++ rest ∧ v = .func (.func f) #[] (List.toArray ptrs) ∧ CapsR w ok caps ptrs d1 f1 ∧ ArgsR w ok ps vs rest f2 ∧ fp = f1 ++ f2
  | _, _, _, _ => False

/-- What was lent, afterwards: at the same places. -/
def LentR (w : World) (ok : Nat → Prop) : List PK → List Value → List DV → List Nat → Prop
  | [], [], ds, fp => ds = [] ∧ fp = []
  | .sh _ :: ps, _ :: vs, ds, fp => LentR w ok ps vs ds fp
  | .mv _ :: ps, _ :: vs, ds, fp => LentR w ok ps vs ds fp
  | .mu t :: ps, v :: vs, ds, fp => ∃ x rest cells f1 f2, ds = ⟨t, x⟩ :: rest ∧ valOf t cells v ∧ Own w ok true t cells x f1 ∧ LentR w ok ps vs rest f2 ∧ fp = f1 ++ f2
  | .bx t m :: ps, v :: vs, ds, fp => ∃ x rest f1 f2, ds = ⟨t, x⟩ :: rest ∧ BoxR w ok m t v x f1 ∧ LentR w ok ps vs rest f2 ∧ fp = f1 ++ f2
  | .fn f caps :: ps, v :: vs, ds, fp => ∃ ptrs d1 rest f1 f2, ds = d1 ++ rest ∧ v = .func (.func f) #[] (List.toArray ptrs) ∧ CapsR w ok caps ptrs d1 f1 ∧ LentR w ok ps vs rest f2 ∧ fp = f1 ++ f2
  | _, _, _, _ => False

def ResL (w : World) (ok : Nat → Prop) : List RK → List Value → List DV → List Nat → Prop
  | [], [], [], fp => fp = []
  | .val t m :: rs, v :: vs, d :: ds, fp => ∃ x cells f1 f2, d = ⟨t, x⟩ ∧ valOf t cells v ∧ Held w ok m t cells x f1 ∧ ResL w ok rs vs ds f2 ∧ fp = f1 ++ f2
  | .box t m :: rs, v :: vs, d :: ds, fp => ∃ x f1 f2, d = ⟨t, x⟩ ∧ BoxR w ok m t v x f1 ∧ ResL w ok rs vs ds f2 ∧ fp = f1 ++ f2
  | _, _, _, _ => False

def oneVal : List Value → Value
  | [v] => v
  | vs => .tuple vs.toArray

/-- The blocks that a call's shared results may lie in: such that the call could read (or was given), and new ones. -/
def okOut (w w' : World) (okin : Nat → Prop) (fp F : List Nat) : Nat → Prop :=
  fun b => b < w'.heap.size ∧ b ∉ F ∧ (b < w.heap.size → okin b ∨ b ∈ fp)

/-- What a call leaves behind. -/
structure After (w w' : World) (okin : Nat → Prop) (ps : List PK) (rs : List RK) (args : List Value) (fp : List Nat) (res : List DV) (upd : List DV) (v : Value) : Prop where
  ex : ∃ vs fr fl, v = oneVal vs ∧ ResL w' (okOut w w' okin fp (fr ++ fl)) rs vs res fr ∧ LentR w' (okOut w w' okin fp (fr ++ fl)) ps args upd fl ∧
    (fr ++ fl).Nodup ∧ ∀ b ∈ fr ++ fl, w.heap.size ≤ b ∨ b ∈ fp
  frame : ∀ b, b < w.heap.size → b ∉ fp → w'.heap[b]? = w.heap[b]?
  grown : w.heap.size ≤ w'.heap.size
  same : w'.os = w.os ∧ w'.tape = w.tape ∧ w'.output = w.output

/-- The package-level variables are as they should be, and not among these blocks. -/
def GlobOk (gl : Nat → Option Obj) (w : World) (fp : List Nat) : Prop := ∀ b o, gl b = some o → w.heap[b]? = some o ∧ b ∉ fp

/-- The function f of the program keeps to the description. -/
def Sn (P : Program) (gl : Nat → Option Obj) (f : FuncId) (fs : FS) : Prop :=
  ∀ (w : World) (args : List Value) (ds : List DV) (fp : List Nat) (okin : Nat → Prop), (∀ b, okin b → b < w.heap.size ∧ b ∉ fp) → GlobOk gl w fp →
    ArgsR w okin fs.ps args ds fp → fp.Nodup → (∀ b ∈ fp, b < w.heap.size) → fs.pre ds →
    Calls P f args.toArray w fun e w' => ∃ v, e = .returned v ∧ After w w' okin fs.ps fs.rs args fp (fs.F ds).1 (fs.F ds).2 v

/-- Values of a struct type are compared field by field. -/
def EqOk (P : Program) (t : TypeId) (ty : Ty) : Prop :=
  ∀ (w w' : World) (xs ys : List Value) (x y : ty.den) (ok : Nat → Prop), Rep w ok ty xs x → Rep w ok ty ys y →
    (Op.equal t (.agg xs.toArray) (.agg ys.toArray)).run P w' = .ok (ty.eqv x y) w' ∧ P.eqGuardType P.depth t = false

/-- The description of the callees holds. -/
structure CfgOk0 (P : Program) (c : Cfg) : Prop where
  tys : ∀ t ty, look c.tys t = some ty → tyOf P 9 t = some ty
  cmp : ∀ t ty, look c.cmp t = some ty → EqOk P t ty
  env : ∀ f fs, look c.env f = some fs → Sn P c.gl f fs ∧ ∃ fn, P.funcs[f]? = some fn ∧ fn.body.isSome = true ∧ (fn.name == "runtime.NumGoroutine") = false

/-- .. in a run that began in the world w0 with what was lent. -/
structure CfgOk (P : Program) (c : Cfg) (w0 : World) (mu : Lent) : Prop extends CfgOk0 P c where
  glob : GlobOk c.gl w0 mu.bl

theorem CfgOk.gl {P : Program} {c : Cfg} {w0 : World} {mu : Lent} (hC : CfgOk P c w0 mu) {Γ : Gam} {st : St} {tmps : Array Value} {w : World} (h : Inv w0 mu Γ st tmps w) {fp : List Nat} (hfp : ∀ b ∈ fp, b ∈ owned Γ st.obs) : GlobOk c.gl w fp := by
  intro b o hb
  obtain ⟨h1, h2⟩ := hC.glob b o hb
  have hlt : b < w0.heap.size := (Array.getElem?_eq_some_iff.1 h1).1
  refine ⟨(h.frame b hlt h2).trans h1, fun hm => ?_⟩
  rcases h.low b (hfp b hm) with h3 | h3
  · omega
  · exact h2 h3

theorem GlobOk.grow {gl : Nat → Option Obj} {w w' : World} {fp : List Nat} (h : GlobOk gl w fp) (hs : ∀ b, b < w.heap.size → w'.heap[b]? = w.heap[b]?) : GlobOk gl w' fp := fun b o hb => by
  obtain ⟨h1, h2⟩ := h b o hb
  exact ⟨(hs b (Array.getElem?_eq_some_iff.1 h1).1).trans h1, h2⟩

end Go.Tm
end

/- (TmFacts)
  Facts on types, operands and addresses, for the soundness of the operations.
-/
section
namespace Go.Tm

theorem tyOf_info {P : Program} {n : Nat} {t : TypeId} {ty : Ty} (h : tyOf P (n + 1) t = some ty) :
    ∃ i z, P.info? t = some i ∧ i.size = ty.size ∧ i.zero = some z ∧ zeroOk ty z.cells.toList = some [] ∧
      (match P.underlying t with
        | some (.int k) => some (.int k)
        | some .bool => some .bool
        | some .string => some .str
        | some (.slice e) => (tyOf P n e).map .sl
        | some (.struct fs) => fieldsTy (tyOf P n) fs.toList 0
        | _ => none) = some ty := by
  simp only [tyOf] at h
  split at h
  · cases h
  · rename_i i hi
    split at h
    · rename_i ty' z h1 h2
      split at h
      · rename_i hz
        split at h
        · rename_i hs
          simp only [Option.some.injEq] at h; subst h
          exact ⟨i, z, hi, hs.1, h2, hz, h1⟩
        · cases h
      · cases h
    · cases h

theorem tyOf_bytes {P : Program} {n : Nat} {t : TypeId} {ty : Ty} (h : tyOf P (n + 1) t = some ty) : ∃ i, P.info? t = some i ∧ i.bytes ≤ 32 * ty.size := by
  simp only [tyOf] at h
  split at h
  · cases h
  · rename_i i hi
    split at h
    · split at h
      · split at h
        · rename_i hs
          simp only [Option.some.injEq] at h; subst h
          exact ⟨i, hi, hs.2⟩
        · cases h
      · cases h
    · cases h

theorem fieldsTy_agg {g : TypeId → Option Ty} : ∀ {fs : List Field} {off : Nat} {ty : Ty}, fieldsTy g fs off = some ty → ty.agg = true
  | [], _, _, h => by simp only [fieldsTy, Option.some.injEq] at h; subst h; rfl
  | f :: fs, off, ty, h => by
    simp only [fieldsTy] at h
    split at h
    · split at h
      · simp only [Option.map_eq_some_iff] at h; obtain ⟨_, _, rfl⟩ := h; rfl
      · cases h
    · cases h

/-- What the program's table says of a type. -/
theorem tyOf_cases {P : Program} {n : Nat} {t : TypeId} {ty : Ty} (h : tyOf P (n + 1) t = some ty) :
    (∃ k, P.underlying t = some (.int k) ∧ ty = .int k) ∨ (P.underlying t = some .bool ∧ ty = .bool) ∨ (P.underlying t = some .string ∧ ty = .str) ∨
    (∃ e te, P.underlying t = some (.slice te) ∧ tyOf P n te = some e ∧ ty = .sl e) ∨
    (∃ fs, P.underlying t = some (.struct fs) ∧ fieldsTy (tyOf P n) fs.toList 0 = some ty ∧ ty.agg = true) := by
  obtain ⟨i, z, _, _, _, _, h⟩ := tyOf_info h
  split at h
  · rename_i k hk; simp only [Option.some.injEq] at h; exact .inl ⟨k, hk, h.symm⟩
  · rename_i hk; simp only [Option.some.injEq] at h; exact .inr (.inl ⟨hk, h.symm⟩)
  · rename_i hk; simp only [Option.some.injEq] at h; exact .inr (.inr (.inl ⟨hk, h.symm⟩))
  · rename_i te hk; simp only [Option.map_eq_some_iff] at h; obtain ⟨e, he, rfl⟩ := h; exact .inr (.inr (.inr (.inl ⟨e, te, hk, he, rfl⟩)))
  · rename_i fs hk; exact .inr (.inr (.inr (.inr ⟨fs, hk, h, fieldsTy_agg h⟩)))
  · cases h

theorem tyOf_sl {P : Program} {n : Nat} {t : TypeId} {e : Ty} (h : tyOf P (n + 1) t = some (.sl e)) : ∃ te, P.underlying t = some (.slice te) ∧ tyOf P n te = some e := by
  rcases tyOf_cases h with ⟨k, _, h⟩ | ⟨_, h⟩ | ⟨_, h⟩ | ⟨e', te, h1, h2, h⟩ | ⟨fs, _, _, h⟩
  · cases h
  · cases h
  · cases h
  · cases h; exact ⟨te, h1, h2⟩
  · cases h

theorem tyOf_str {P : Program} {n : Nat} {t : TypeId} (h : tyOf P (n + 1) t = some .str) : P.underlying t = some .string := by
  rcases tyOf_cases h with ⟨k, _, h⟩ | ⟨_, h⟩ | ⟨h', h⟩ | ⟨e', te, h1, h2, h⟩ | ⟨fs, _, _, h⟩
  · cases h
  · cases h
  · exact h'
  · cases h
  · cases h

theorem tyOf_int {P : Program} {n : Nat} {t : TypeId} {k : IntKind} (h : tyOf P (n + 1) t = some (.int k)) : P.underlying t = some (.int k) := by
  rcases tyOf_cases h with ⟨k', h', h⟩ | ⟨_, h⟩ | ⟨_, h⟩ | ⟨e', te, h1, h2, h⟩ | ⟨fs, _, _, h⟩
  · cases h; exact h'
  · cases h
  · cases h
  · cases h
  · cases h

theorem tyOf_bool {P : Program} {n : Nat} {t : TypeId} (h : tyOf P (n + 1) t = some .bool) : P.underlying t = some .bool := by
  rcases tyOf_cases h with ⟨k', h', h⟩ | ⟨h', h⟩ | ⟨_, h⟩ | ⟨e', te, h1, h2, h⟩ | ⟨fs, _, _, h⟩
  · cases h
  · exact h'
  · cases h
  · cases h
  · cases h

theorem tyOf_st {P : Program} {n : Nat} {t : TypeId} {ty : Ty} (h : tyOf P (n + 1) t = some ty) (ha : ty.agg = true) :
    ∃ fs, P.underlying t = some (.struct fs) ∧ fieldsTy (tyOf P n) fs.toList 0 = some ty := by
  rcases tyOf_cases h with ⟨k', h', rfl⟩ | ⟨h', rfl⟩ | ⟨_, rfl⟩ | ⟨e', te, h1, h2, rfl⟩ | ⟨fs, h1, h2, _⟩
  · cases ha
  · cases ha
  · cases ha
  · cases ha
  · exact ⟨fs, h1, h2⟩

theorem run_isAgg {P : Program} {n : Nat} {t : TypeId} {ty : Ty} (h : tyOf P (n + 1) t = some ty) (w : World) : (isAgg t).run P w = .ok ty.agg w := by
  unfold isAgg
  rcases tyOf_cases h with ⟨k, hu, rfl⟩ | ⟨hu, rfl⟩ | ⟨hu, rfl⟩ | ⟨e, te, hu, _, rfl⟩ | ⟨fs, hu, _, ha⟩
  · simp [run_underlying hu, Ty.agg]
  · simp [run_underlying hu, Ty.agg]
  · simp [run_underlying hu, Ty.agg]
  · simp [run_underlying hu, Ty.agg]
  · simp [run_underlying hu, ha]

theorem run_sizeOf {P : Program} {n : Nat} {t : TypeId} {ty : Ty} (h : tyOf P (n + 1) t = some ty) (w : World) : (sizeOf t).run P w = .ok ty.size w := by
  obtain ⟨i, z, hi, hs, _⟩ := tyOf_info h
  simp [sizeOf, typeInfo, hi, hs]

theorem field_at {g : TypeId → Option Ty} : ∀ {fs : List Field} {off : Nat} {ty : Ty} {k : Nat} {f : Field}, fieldsTy g fs off = some ty → fs[k]? = some f →
    ∃ u o, ty.offB (fieldPath k) = some (u, o) ∧ f.offset = off + o ∧ g f.type = some u
  | [], _, _, _, _, _, h => by simp at h
  | f' :: fs, off, ty, k, f, h, hk => by
    simp only [fieldsTy] at h
    split at h
    case isFalse => cases h
    rename_i ho
    split at h
    case h_2 => cases h
    rename_i a ha
    simp only [Option.map_eq_some_iff] at h
    obtain ⟨r, hr, rfl⟩ := h
    cases k with
    | zero =>
      simp only [List.getElem?_cons_zero, Option.some.injEq] at hk; subst hk
      exact ⟨a, 0, by simp [fieldPath, Ty.offB], by omega, ha⟩
    | succ k =>
      simp only [List.getElem?_cons_succ] at hk
      obtain ⟨u, o, h1, h2, h3⟩ := field_at hr hk
      exact ⟨u, a.size + o, by simp [fieldPath, Ty.offB, h1], by omega, h3⟩

theorem field_of {g : TypeId → Option Ty} : ∀ {fs : List Field} {off : Nat} {ty : Ty} {k : Nat} {r : Ty × Nat}, fieldsTy g fs off = some ty → ty.offB (fieldPath k) = some r → ∃ f, fs[k]? = some f
  | [], _, _, k, _, h, hk => by
    simp only [fieldsTy, Option.some.injEq] at h; subst h
    cases k <;> simp [fieldPath, Ty.offB] at hk
  | f' :: fs, off, ty, k, r, h, hk => by
    simp only [fieldsTy] at h
    split at h
    case isFalse => cases h
    split at h
    case h_2 => cases h
    simp only [Option.map_eq_some_iff] at h
    obtain ⟨r', hr, rfl⟩ := h
    cases k with
    | zero => exact ⟨f', rfl⟩
    | succ k =>
      simp only [fieldPath, Ty.offB, Option.map_eq_some_iff] at hk
      obtain ⟨q, hq, _⟩ := hk
      obtain ⟨f, hf⟩ := field_of hr hq
      exact ⟨f, hf⟩

/-! ### values -/

theorem keyHas_sound {key : Key} {q : Nat × Bool} (h : keyHas key q = true) : q ∈ key := by
  simp only [keyHas, List.any_eq_true, Bool.and_eq_true] at h
  obtain ⟨x, hx, h1, h2⟩ := h
  have := Nat.eq_of_beq_eq_true h1
  have h3 : x.2 = q.2 := by simpa using h2
  have : x = q := Prod.ext this h3
  exact this ▸ hx

theorem litRV_sound {E : Env} {v : Value} {rv : RV} (h : litRV v = some rv) : VR E rv v := by
  cases v <;> simp only [litRV, reduceCtorEq] at h
  · simp only [Option.some.injEq] at h; subst h
    exact ⟨_, rfl, by simp [RV.agg, Ty.agg]⟩
  · split at h
    · rename_i hh; simp only [Option.some.injEq] at h; subst h
      exact ⟨_, ⟨rfl, hh.1, hh.2⟩, by simp [RV.agg, Ty.agg]⟩
    · cases h
  · split at h
    · rename_i hh; simp only [Option.some.injEq] at h; subst h
      exact ⟨_, ⟨rfl, hh⟩, by simp [RV.agg, Ty.agg]⟩
    · cases h

theorem Inv.val {w0 : World} {mu : Lent} {Γ : Gam} {st : St} {a : Act} {w : World} (h : Inv w0 mu Γ st a.tmps w) {key : Key}
    (hk : ∀ q ∈ key, a.tmps.getD q.1 undef = .bool q.2) {hint : Option Ty} {x : Operand} {rv : RV} (hv : st.val key hint x = some rv) :
    VR (envOf w Γ st.obs) rv (a.eval x) := by
  cases x with
  | tmp t =>
    simp only [St.val] at hv
    split at hv
    · rename_i k rv' hl
      cases hc : k.all (keyHas key) with
      | false => rw [hc] at hv; cases hv
      | true =>
        rw [hc] at hv
        simp only [cond_true, Option.some.injEq] at hv; subst hv
        exact h.regs t k _ (look_mem hl) fun q hq => hk q (keyHas_sound (List.all_eq_true.1 hc q hq))
    · cases hv
  | const v =>
    simp only [St.val] at hv
    split at hv
    · rename_i hl
      simp only [Option.some.injEq] at hv; subst hv
      exact litRV_sound hl
    · simp only [Option.some.injEq] at hv; subst hv
      exact ⟨_, ⟨_, rfl⟩, by simp [RV.agg]; rfl⟩
    · cases hv
  | func f =>
    simp only [St.val, Option.some.injEq] at hv; subst hv
    exact ⟨_, ⟨rfl, by simp⟩, by simp [RV.agg]; rfl⟩
  | global g => simp [St.val] at hv

theorem VR.int {E : Env} {k : IntKind} {n : Int} {v : Value} (h : VR E (.v (.int k) n) v) : v = .int k n ∧ k.min ≤ n ∧ n ≤ k.max := by
  obtain ⟨vs, ⟨rfl, h1⟩, h2⟩ := h
  simp only [RV.agg, Ty.agg, Bool.false_eq_true, if_false, List.cons.injEq, and_true] at h2
  exact ⟨h2.symm, h1⟩

theorem VR.bool {E : Env} {b : Bool} {v : Value} (h : VR E (.v .bool b) v) : v = .bool b := by
  obtain ⟨vs, h1, h2⟩ := h
  simp only [CR, Rep] at h1; subst h1
  simp only [RV.agg, Ty.agg, Bool.false_eq_true, if_false, List.cons.injEq, and_true] at h2
  exact h2.symm

theorem VR.str {E : Env} {s : ByteArray} {v : Value} (h : VR E (.v .str s) v) : v = .string s ∧ s.size ≤ lenMax := by
  obtain ⟨vs, ⟨rfl, h1⟩, h2⟩ := h
  simp only [RV.agg, Ty.agg, Bool.false_eq_true, if_false, List.cons.injEq, and_true] at h2
  exact ⟨h2.symm, h1⟩

theorem VR.of_int {E : Env} {k : IntKind} {n : Int} (h1 : k.min ≤ n) (h2 : n ≤ k.max) : VR E (.v (.int k) n) (.int k n) :=
  ⟨_, ⟨rfl, h1, h2⟩, by simp [RV.agg, Ty.agg]⟩

theorem VR.of_bool {E : Env} {b : Bool} : VR E (.v .bool b) (.bool b) := ⟨_, rfl, by simp [RV.agg, Ty.agg]⟩

theorem VR.of_str {E : Env} {s : ByteArray} (h : s.size ≤ lenMax) : VR E (.v .str s) (.string s) := ⟨_, ⟨rfl, h⟩, by simp [RV.agg, Ty.agg]⟩

/-- A value in one cell. -/
theorem VR1.cell {E : Env} {rv : RV} {v : Value} (h : VR1 E rv v) (ha : rv.agg = false) : CR E rv [v] := by
  obtain ⟨vs, h1, h2⟩ := h
  rw [ha] at h2; simp only [Bool.false_eq_true, if_false] at h2
  subst h2; exact h1

theorem Inv.hdr {w0 : World} {mu : Lent} {Γ : Gam} {st : St} {tmps : Array Value} {w : World} (h : Inv w0 mu Γ st tmps w) {s : Nat} {e : Ty} {d : Bool} {xs : List e.den}
    (hs : look st.obs s = some (.slot e d xs)) : ∃ a cap, Γ.hdr s = .slice a xs.length cap := by
  obtain ⟨_, a, cap, h1, _⟩ := h.obs s _ (look_mem hs)
  exact ⟨a, cap, h1⟩

theorem Inv.cells {w0 : World} {mu : Lent} {Γ : Gam} {st : St} {tmps : Array Value} {w : World} (h : Inv w0 mu Γ st tmps w) {rv : RV} {v : Value}
    (hv : VR1 (envOf w Γ st.obs) rv v) (hd : rv.noDead = true) : CR (envOf w Γ st.obs) rv v.cells.toList := by
  obtain ⟨vs, h1, h2⟩ := hv
  split at h2
  · subst h2; simpa [Value.cells] using h1
  · rename_i hagg
    subst h2
    have : v.cells.toList = [v] ∨ ∃ cs, v = .agg cs := by cases v <;> simp [Value.cells]
    rcases this with e | ⟨cs, rfl⟩
    · rw [e]; exact h1
    · exfalso
      cases rv with
      | v t x =>
        cases t <;> simp only [CR, Rep, RV.agg, Ty.agg, Bool.false_eq_true, not_true_eq_false, not_false_eq_true, List.cons.injEq, reduceCtorEq, and_true, false_and] at h1 hagg
        obtain ⟨_, _, h1⟩ := h1; exact h1
      | nl e => obtain ⟨a, h⟩ := h1; cases h
      | rf s e n =>
        obtain ⟨h', d, xs, ho, _⟩ := h1
        obtain ⟨a, cap, hh⟩ := h.hdr ho
        have h2 : Value.agg cs = Γ.hdr s := (List.cons.inj h').1
        rw [hh] at h2; cases h2
      | vw s p t x =>
        obtain ⟨h1, _⟩ := h1
        cases t <;> simp only [Rep, RV.agg, Ty.agg, Bool.false_eq_true, not_true_eq_false, not_false_eq_true, List.cons.injEq, reduceCtorEq, and_true, false_and] at h1 hagg
        obtain ⟨_, _, h1⟩ := h1; exact h1
      | bi o p => obtain ⟨_, _, _, _, _, _, h⟩ := h1; cases h
      | ptr s p => obtain ⟨_, _, _, _, _, _, _, _, h⟩ := h1; cases h
      | pv t x => obtain ⟨_, _, _, h, _⟩ := h1; cases h
      | fn f c => obtain ⟨h, _⟩ := h1; cases h
      | dd t => cases hd
      | pr a b => simp [RV.agg] at hagg
      | un => simp [RV.agg] at hagg
      | tp a => exact h1

end Go.Tm
end
