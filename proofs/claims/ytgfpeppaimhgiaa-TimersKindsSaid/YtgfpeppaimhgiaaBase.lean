/-
  What a map of timers holds, and what Go's operations on such a map do to it: plain laws on the model's maps, for keys of any kind that the model can compare.
-/
import Derived.Test.YtgfpeppaimhgiaaRows
import Derived.WalkKit
import Derived.WalkSpells
import Derived.WalkLawsBesides
import Derived.Maps.Own
import Derived.Maps.OwnOps
import Derived.Maps.OwnSet
import Derived.Maps.RangeWalk
namespace Go.Proofs.Ytgfpeppaimhgiaa
open Go.RowKit Go.Maps
set_option linter.unusedVariables false
set_option linter.unusedSimpArgs false

/-- A fact that the walk's simp does not look into. -/
structure Aside (p : Prop) : Prop where mk :: (out : p)

/-! ### 1. Worlds: only the blocks of S, and what is new, have turned -/
structure Upd (S : Nat → Prop) (w w' : World) : Prop where
  os : w'.os = w.os
  tape : w'.tape = w.tape
  output : w'.output = w.output
  size : w.heap.size ≤ w'.heap.size
  block : ∀ i, i < w.heap.size → ¬ S i → w'.heap[i]? = w.heap[i]?

theorem Upd.refl (S : Nat → Prop) (w : World) : Upd S w w := ⟨rfl, rfl, rfl, Nat.le_refl _, fun _ _ _ => rfl⟩
theorem Upd.trans {S : Nat → Prop} {a b c : World} (h : Upd S a b) (k : Upd S b c) : Upd S a c :=
  ⟨k.os.trans h.os, k.tape.trans h.tape, k.output.trans h.output, Nat.le_trans h.size k.size, fun i hi hs => (k.block i (Nat.lt_of_lt_of_le hi h.size) hs).trans (h.block i hi hs)⟩
theorem Upd.mono {S S' : Nat → Prop} {a b : World} (h : Upd S a b) (hs : ∀ i, S i → S' i) : Upd S' a b :=
  ⟨h.os, h.tape, h.output, h.size, fun i hi hn => h.block i hi (fun k => hn (hs i k))⟩
/-- What is new for the older world may turn. -/
theorem Upd.new {S S' : Nat → Prop} {a b c : World} (h : Upd S a b) (k : Upd S' b c) (hs : ∀ i, i < a.heap.size → S' i → S i) : Upd S a c :=
  ⟨k.os.trans h.os, k.tape.trans h.tape, k.output.trans h.output, Nat.le_trans h.size k.size, fun i hi hn => (k.block i (Nat.lt_of_lt_of_le hi h.size) (fun q => hn (hs i hi q))).trans (h.block i hi hn)⟩
theorem Upd.drew {S : Nat → Prop} {a b : World} (h : Upd S a b) : Upd S a b.drew := ⟨h.os, h.tape, h.output, h.size, h.block⟩
theorem Upd.drewN {S : Nat → Prop} {a b : World} (h : Upd S a b) (n : Nat) : Upd S a (b.drewN n) := ⟨h.os, h.tape, h.output, h.size, h.block⟩
theorem Upd.alloc {S : Nat → Prop} {a b : World} (h : Upd S a b) (o : Obj) : Upd S a (b.alloc o) :=
  ⟨h.os, h.tape, h.output, Nat.le_trans h.size (by simp), fun i hi hn => (Below.heap_alloc b o i (Nat.lt_of_lt_of_le hi h.size)).trans (h.block i hi hn)⟩
theorem Upd.setCell {S : Nat → Prop} {a b : World} (h : Upd S a b) (p : Addr) (v : Value) (hp : p.block < a.heap.size → S p.block) : Upd S a (b.setCell p v) :=
  ⟨h.os, h.tape, h.output, by simpa using h.size, fun i hi hn => (Below.heap_setCell b p v i (fun e => hn (e ▸ hp (e ▸ hi)))).trans (h.block i hi hn)⟩
def World.putObj (w : World) (r : Nat) (o : Obj) : World := { w with heap := w.heap.setIfInBounds r o }
theorem Upd.putObj {S : Nat → Prop} {a b : World} (h : Upd S a b) (r : Nat) (o : Obj) (hp : r < a.heap.size → S r) : Upd S a (World.putObj b r o) :=
  ⟨h.os, h.tape, h.output, by simpa [World.putObj] using h.size, fun i hi hn => by
    have hne : r ≠ i := fun e => hn (e ▸ hp (e ▸ hi))
    rw [← h.block i hi hn]
    simp [World.putObj, Array.getElem?_setIfInBounds, hne]⟩
theorem Upd.of_below {S : Nat → Prop} {a b : World} (h : Below a.heap.size a b) : Upd S a b := ⟨h.os, h.tape, h.output, h.size, fun i hi _ => h.block i hi⟩
theorem Upd.below {a b : World} {S : Nat → Prop} {B : Nat} (h : Upd S a b) (hB : B ≤ a.heap.size) (hs : ∀ i, S i → B ≤ i) : Below B a b :=
  ⟨h.os, h.tape, h.output, h.size, fun i hi => h.block i (by omega) (fun k => by have := hs i k; omega)⟩
theorem Upd.heap {S : Nat → Prop} {a b : World} (h : Upd S a b) {i : Nat} {o : Obj} (ho : a.heap[i]? = some o) (hs : ¬ S i) : b.heap[i]? = some o := by
  rw [h.block i (lt_of_block ho) hs]; exact ho
theorem Upd.cell {S : Nat → Prop} {a b : World} (h : Upd S a b) {p : Addr} (hp : p.block < a.heap.size) (hs : ¬ S p.block) : b.cell? p = a.cell? p :=
  World.cell?_of_block (h.block _ hp hs)
theorem Upd.frozen {S : Nat → Prop} {a b : World} (h : Upd S a b) {p : Addr} (hp : p.block < a.heap.size) (hs : ¬ S p.block) : b.frozen? p = a.frozen? p :=
  World.frozen?_of_block (h.block _ hp hs)
theorem putObj_heap {w : World} {r : Nat} {o : Obj} (h : r < w.heap.size) : (World.putObj w r o).heap[r]? = some o := by simp [World.putObj, h]

/-! ### 2. Keys -/
structure KK {κ : Type} (P : Program) (k : TypeId) (enc : κ → Value) (ok : κ → Prop) : Prop where
  inj : ∀ {a b : κ}, enc a = enc b → a = b
  check : ∀ (w : World) (em : Bool) {a : κ}, ok a → (Instr.checkKey em 10000 k (enc a)).run P w = .ok () w
  find : ∀ (w : World) {a : κ}, ok a → ∀ es : List MapEntry, (∀ e ∈ es, ∃ b, ok b ∧ e.key = enc b) →
    ((Instr.findKey k (enc a) es).run P w = .ok none w ∧ ∀ e ∈ es, e.key ≠ enc a) ∨ ∃ j e, (Instr.findKey k (enc a) es).run P w = .ok (some (j, e.val)) w ∧ es[j]? = some e ∧ e.key = enc a
  stays : ∀ (w : World) {a : κ}, ok a → (Instr.keyThatStays (enc a) (enc a)).run P w = .ok (enc a) w

theorem KK.of_keyed {κ : Type} {P : Program} {k : TypeId} {enc : κ → Value} {ok : κ → Prop} (K : Keyed P k) (hi : ∀ {a b : κ}, enc a = enc b → a = b) (hk : ∀ a, ok a → ∃ l, keyOf P k (enc a) = some l) : KK P k enc ok where
  inj := hi
  check w em a ha := by obtain ⟨l, hl⟩ := hk a ha; exact K.check w em hl
  find w a ha es hes := by
    obtain ⟨l, hl⟩ := hk a ha
    exact K.find w hl es fun e he => by
      obtain ⟨b, hb, h⟩ := hes e he
      rw [h]; exact hk b hb
  stays w a ha := by obtain ⟨l, hl⟩ := hk a ha; exact K.stays w hl

/-! ### 3. A map of timers -/
structure Ent (κ : Type) where
  key : κ
  time : Int
  turn : Nat
  born : Nat

set_option linter.unusedSectionVars false
section
variable {κ : Type} [DecidableEq κ] {P : Program} {k E : TypeId} {enc : κ → Value} {ok : κ → Prop}

def valOf (time : Int) (turn : Nat) : Value := .agg #[.int .i64 time, .int .u64 turn]
def entOf (enc : κ → Value) (e : Ent κ) : MapEntry := { key := enc e.key, val := valOf e.time e.turn, born := e.born }
def MapIs (enc : κ → Value) (w : World) (m : Nat) (L : List (Ent κ)) (ck : Nat) : Prop := w.heap[m]? = some (.map (L.map (entOf enc)).toArray ck)
/-- The keys are apart, and such as may be compared. -/
structure Fine (ok : κ → Prop) (L : List (Ent κ)) : Prop where
  ok : ∀ e ∈ L, ok e.key
  nodup : (L.map (·.key)).Nodup

theorem KK.find_ent (K : KK P k enc ok) (w : World) {a : κ} (ha : ok a) {L : List (Ent κ)} (hL : Fine ok L) :
    ((Instr.findKey k (enc a) (L.map (entOf enc))).run P w = .ok none w ∧ ∀ e ∈ L, e.key ≠ a) ∨
    ∃ j e, (Instr.findKey k (enc a) (L.map (entOf enc))).run P w = .ok (some (j, valOf e.time e.turn)) w ∧ L[j]? = some e ∧ e.key = a := by
  rcases K.find w ha (L.map (entOf enc)) (fun e he => by
    obtain ⟨x, hx, rfl⟩ := List.mem_map.1 he
    exact ⟨x.key, hL.ok x hx, rfl⟩) with ⟨h1, h2⟩ | ⟨j, e, h1, h2, h3⟩
  · refine .inl ⟨h1, fun e he hk => ?_⟩
    exact h2 (entOf enc e) (List.mem_map_of_mem he) (by rw [← hk]; rfl)
  · rw [List.getElem?_map] at h2
    obtain ⟨x, hx, rfl⟩ := Option.map_eq_some_iff.1 h2
    exact .inr ⟨j, x, h1, hx, K.inj h3⟩

def hasKey (L : List (Ent κ)) (a : κ) : Bool := L.any fun e => decide (e.key = a)
theorem hasKey_true {L : List (Ent κ)} {a : κ} : hasKey L a = true ↔ ∃ e ∈ L, e.key = a := by simp [hasKey]
theorem hasKey_false {L : List (Ent κ)} {a : κ} : hasKey L a = false ↔ ∀ e ∈ L, e.key ≠ a := by simp [hasKey]

theorem run_getMap {w : World} {m : Nat} {es : Array MapEntry} {ck : Nat} (h : w.heap[m]? = some (.map es ck)) : (getObj m).run P w = .ok (.map es ck) w := by
  simp [getObj, Sem.run, h]
theorem run_setMap {w : World} {m : Nat} {es : Array MapEntry} {ck : Nat} (h : w.heap[m]? = some (.map es ck)) (o : Obj) : (setObj m o).run P w = .ok () (World.putObj w m o) := by
  simp [setObj, Sem.run, h, World.putObj]

theorem run_lookup_tbl (K : KK P k enc ok) {T : TypeId} (ht : P.underlying T = some (.map k E)) (hz : ∀ w, (zeroValue E).run P w = .ok (valOf 0 0) w) {w : World} {m : Nat} {L : List (Ent κ)} {ck : Nat}
    (hm : MapIs enc w m L ck) (hL : Fine ok L) {a : κ} (ha : ok a) :
    ∃ t u, (Instr.lookup T (.map (some m)) (enc a) true).run P w = .ok (.tuple #[valOf t u, .bool (hasKey L a)]) w := by
  have hc := K.check w (L.map (entOf enc)).toArray.isEmpty ha
  have hg := run_getMap (P := P) hm
  rcases K.find_ent w ha hL with ⟨h1, h2⟩ | ⟨j, e, h1, h2, h3⟩
  · refine ⟨0, 0, ?_⟩
    rw [hasKey_false.2 h2]
    simp [Instr.lookup, run_underlying ht, hg, Result.andThen] at hc ⊢
    simp [hc, h1, hz]
  · refine ⟨e.time, e.turn, ?_⟩
    rw [hasKey_true.2 ⟨e, List.mem_of_getElem? h2, h3⟩]
    simp [Instr.lookup, run_underlying ht, hg, Result.andThen] at hc ⊢
    simp [hc, h1, hz]

theorem fine_filter {L : List (Ent κ)} (hL : Fine ok L) (p : Ent κ → Bool) : Fine ok (L.filter p) :=
  ⟨fun e he => hL.ok e (List.mem_filter.1 he).1, hL.nodup.sublist (List.filter_sublist.map _)⟩

theorem erase_eq_filter {a : κ} : ∀ {L : List (Ent κ)} {j : Nat} {e : Ent κ}, (L.map (·.key)).Nodup → L[j]? = some e → e.key = a → L.eraseIdx j = L.filter (fun e => decide (e.key ≠ a))
  | [], j, e, _, h, _ => by simp at h
  | x :: L, 0, e, hn, h, hk => by
    simp at h
    subst h
    subst hk
    simp only [List.map_cons, List.nodup_cons, List.mem_map, not_exists, not_and] at hn
    simp only [List.eraseIdx_zero, List.tail_cons]
    rw [List.filter_cons_of_neg (by simp)]
    exact (List.filter_eq_self.2 fun y hy => by simpa using hn.1 y hy).symm
  | x :: L, j + 1, e, hn, h, hk => by
    simp only [List.getElem?_cons_succ] at h
    simp only [List.map_cons, List.nodup_cons, List.mem_map, not_exists, not_and] at hn
    have hx : x.key ≠ a := fun he => hn.1 e (List.mem_of_getElem? h) (by rw [hk, he])
    rw [List.eraseIdx_cons_succ, List.filter_cons_of_pos (by simpa using hx), erase_eq_filter hn.2 h hk]

def dropKey (L : List (Ent κ)) (a : κ) : List (Ent κ) := L.filter fun e => decide (e.key ≠ a)

theorem run_delete_tbl (K : KK P k enc ok) {T : TypeId} (ht : P.underlying T = some (.map k E)) {w : World} {m : Nat} {L : List (Ent κ)} {ck : Nat}
    (hm : MapIs enc w m L ck) (hL : Fine ok L) {a : κ} (ha : ok a) (ty kt : TypeId) :
    (Builtin.delete_ #[T, kt] ty #[.map (some m), enc a]).run P w = .ok (.tuple #[]) (World.putObj w m (.map ((dropKey L a).map (entOf enc)).toArray ck)) := by
  have hc := K.check w (L.map (entOf enc)).toArray.isEmpty ha
  have hg := run_getMap (P := P) hm
  have hs := fun o => run_setMap (P := P) hm o
  unfold dropKey
  rcases K.find_ent w ha hL with ⟨h1, h2⟩ | ⟨j, e, h1, h2, h3⟩
  · have hf : L.filter (fun e => decide (e.key ≠ a)) = L := List.filter_eq_self.2 fun y hy => by simpa using h2 y hy
    rw [hf]
    simp [Builtin.delete_, run_underlying ht, hg, Result.andThen] at hc ⊢
    simp [hc, h1, hs]
  · rw [← erase_eq_filter hL.nodup h2 h3]
    simp [Builtin.delete_, run_underlying ht, hg, Result.andThen] at hc ⊢
    simp [hc, h1, hs]
    rw [ChangeMaps.map_eraseIdx]

def putKey (L : List (Ent κ)) (a : κ) (t : Int) (u ck : Nat) : List (Ent κ) :=
  if hasKey L a then L.map fun e => if e.key = a then { e with time := t, turn := u } else e else L ++ [⟨a, t, u, ck⟩]

theorem modify_eq_map {a : κ} {t : Int} {u : Nat} : ∀ {L : List (Ent κ)} {j : Nat} {e : Ent κ}, (L.map (·.key)).Nodup → L[j]? = some e → e.key = a →
    (L.map (entOf enc)).modify j (fun e => { key := enc a, val := valOf t u, born := e.born }) = L.map (entOf enc ∘ fun e => if e.key = a then { key := e.key, time := t, turn := u, born := e.born } else e)
  | [], j, e, _, h, _ => by simp at h
  | x :: L, 0, e, hn, h, hk => by
    simp at h
    subst h
    subst hk
    simp only [List.map_cons, List.nodup_cons, List.mem_map, not_exists, not_and] at hn
    simp only [List.map_cons, List.modify_zero_cons, List.cons.injEq]
    refine ⟨by simp [entOf], List.map_congr_left fun y hy => ?_⟩
    simp only [Function.comp]
    rw [if_neg (hn.1 y hy)]
  | x :: L, j + 1, e, hn, h, hk => by
    simp only [List.getElem?_cons_succ] at h
    simp only [List.map_cons, List.nodup_cons, List.mem_map, not_exists, not_and] at hn
    have hx : x.key ≠ a := fun he => hn.1 e (List.mem_of_getElem? h) (by rw [hk, he])
    simp only [List.map_cons, List.modify_succ_cons, List.cons.injEq]
    refine ⟨by simp [entOf, hx], modify_eq_map hn.2 h hk⟩

theorem run_update_tbl (K : KK P k enc ok) {T : TypeId} (ht : P.underlying T = some (.map k E)) {w : World} {m : Nat} {L : List (Ent κ)} {ck : Nat}
    (hm : MapIs enc w m L ck) (hL : Fine ok L) {a : κ} (ha : ok a) (t : Int) (u : Nat) :
    (Instr.mapUpdate T (.map (some m)) (enc a) (valOf t u)).run P w = .ok () (World.putObj w m (.map ((putKey L a t u ck).map (entOf enc)).toArray (if hasKey L a then ck else ck + 1))) := by
  have hc := K.check w false ha
  have hst := K.stays w ha
  have hg := run_getMap (P := P) hm
  have hs := fun o => run_setMap (P := P) hm o
  unfold putKey
  rcases K.find_ent w ha hL with ⟨h1, h2⟩ | ⟨j, e, h1, h2, h3⟩
  · simp [Instr.mapUpdate, run_underlying ht, hg, Result.andThen] at hc ⊢
    simp [hc, h1, hs, hasKey_false.2 h2, entOf]
  · have hh : hasKey L a = true := hasKey_true.2 ⟨e, List.mem_of_getElem? h2, h3⟩
    simp [Instr.mapUpdate, run_underlying ht, hg, Result.andThen] at hc ⊢
    have hst' : (Instr.keyThatStays (enc e.key) (enc a)).run P w = .ok (enc a) w := by rw [h3]; exact hst
    simp [hc, h1, h2, hs, hh, entOf, hst']
    rw [modify_eq_map (enc := enc) (a := a) (t := t) (u := u) hL.nodup h2 h3]

/-! ### 4. Ranging over such a map -/
def iterOf (m ck : Nat) (D : List (Ent κ)) : Obj := .mapIter (some m) ck (D.map (·.born)).toArray ck
def leftN (L D : List (Ent κ)) : Nat := (L.filter fun e => !(D.map (·.born)).contains e.born).length

theorem born_inj : ∀ {L : List (Ent κ)}, (L.map (·.born)).Nodup → ∀ {x y : Ent κ}, x ∈ L → y ∈ L → x.born = y.born → x = y
  | [], _, x, y, hx, _, _ => by simp at hx
  | z :: L, hn, x, y, hx, hy, h => by
    simp only [List.map_cons, List.nodup_cons, List.mem_map, not_exists, not_and] at hn
    rcases List.mem_cons.1 hx with hx | hx <;> rcases List.mem_cons.1 hy with hy | hy
    · rw [hx, hy]
    · exact absurd (hx ▸ h).symm (hn.1 y hy)
    · exact absurd (hy ▸ h) (hn.1 x hx)
    · exact born_inj hn.2 hx hy h

theorem leftN_lt {L D : List (Ent κ)} {e : Ent κ} (he : e ∈ L) (hd : ∀ d ∈ D, d.born ≠ e.born) : leftN L (D ++ [e]) < leftN L D := by
  unfold leftN
  have hs : (L.filter fun x => !((D ++ [e]).map (·.born)).contains x.born) = (L.filter fun x => !(D.map (·.born)).contains x.born).filter fun x => decide (x.born ≠ e.born) := by
    rw [List.filter_filter]
    refine List.filter_congr fun x _ => ?_
    simp only [List.map_append, List.map_cons, List.map_nil, List.contains_append]
    by_cases h : x.born = e.born <;> simp [h]
  rw [hs]
  have hm : e ∈ L.filter fun x => !(D.map (·.born)).contains x.born := by
    refine List.mem_filter.2 ⟨he, ?_⟩
    simp only [Bool.not_eq_true', List.contains_eq_mem, decide_eq_false_iff_not, List.mem_map, not_exists, not_and]
    exact fun d hd' => hd d hd'
  generalize (L.filter fun x => !(D.map (·.born)).contains x.born) = M at hm
  refine Nat.lt_of_le_of_ne (List.length_filter_le _ _) fun heq => ?_
  have := List.length_filter_eq_length_iff.1 heq e hm
  simp at this

theorem run_range_tbl {T : TypeId} (ht : P.underlying T = some (.map k E)) {w : World} {m : Nat} {L : List (Ent κ)} {ck : Nat} (hm : MapIs enc w m L ck) :
    (Instr.range T (.map (some m))).run P w = .ok (.pointer (some ⟨w.heap.size, 0, none⟩)) (w.alloc (iterOf m ck ([] : List (Ent κ)))) := by
  have hg := run_getMap (P := P) hm
  simp [Instr.range, run_underlying ht, hg, iterOf, Result.andThen]

theorem run_next_tbl {w : World} {r m : Nat} {L D : List (Ent κ)} {ck : Nat} (hr : w.heap[r]? = some (iterOf m ck D)) (hm : MapIs enc w m L ck) (hlt : ∀ e ∈ L, e.born < ck)
    (hDL : ∀ d ∈ D, d ∈ L) (ty : TypeId) :
    ((∀ e ∈ L, ∃ d ∈ D, d.born = e.born) ∧ (Instr.next (.pointer (some ⟨r, 0, none⟩)) false ty).run P w = .ok (.tuple #[.bool false]) w) ∨
    ∃ e ∈ L, (∀ d ∈ D, d.born ≠ e.born) ∧ ∃ w1 : World, (w1 = w ∨ w1 = w.drew) ∧
      (Instr.next (.pointer (some ⟨r, 0, none⟩)) false ty).run P w = .ok (.tuple #[.bool true, enc e.key, valOf e.time e.turn]) (World.putObj w1 r (iterOf m ck (D ++ [e]))) := by
  rcases run_next_at (P := P) w ty r m ck ck (D.map fun d : Ent κ => d.born).toArray (L.map (entOf enc)).toArray ck hr hm (fun x hx => by
    obtain ⟨y, hy, rfl⟩ := List.mem_map.1 (by simpa using hx)
    exact hlt y hy) (Nat.le_refl _) with ⟨h0, h1⟩ | ⟨x, hx, w1, h1, h2⟩
  · refine .inl ⟨fun e he => ?_, h1⟩
    have h0' : leftOf (L.map (entOf enc)).toArray (D.map (·.born)).toArray = #[] := Array.eq_empty_of_size_eq_zero h0
    unfold leftOf at h0'
    rw [Array.filter_eq_empty_iff] at h0'
    have := h0' (entOf enc e) (by simpa using ⟨e, he, rfl⟩)
    simpa [entOf] using this
  · unfold leftOf at hx
    simp only [Array.toList_filter, List.mem_filter, List.mem_map] at hx
    obtain ⟨⟨e, he, rfl⟩, hx2⟩ := hx
    refine .inr ⟨e, he, fun d hd => ?_, w1, h1, ?_⟩
    · simp [entOf] at hx2
      exact hx2 d hd
    · rw [h2]
      simp [World.putObj, ChangeMaps.setBlock, iterOf, entOf, valOf]

theorem run_entry_tbl {w : World} {r m : Nat} {L D : List (Ent κ)} {ck : Nat} {e : Ent κ} (hr : w.heap[r]? = some (iterOf m ck (D ++ [e]))) (hm : MapIs enc w m L ck) (he : e ∈ L) (hn : (L.map (·.born)).Nodup) :
    (Instr.entry (.pointer (some ⟨r, 0, none⟩))).run P w = .ok (.tuple #[enc e.key, valOf e.time e.turn]) w := by
  exact run_entry_at (P := P) w r m ck (D.map (·.born)).toArray (L.map (entOf enc)).toArray ck (entOf enc e) (by rw [hr]; simp [iterOf, entOf]) hm (by simpa using ⟨e, he, rfl⟩) (by simpa [Function.comp_def, entOf] using hn)

/-! ### 5. What a table says: the keys with their times, in the order in which they were set -/
def rdrop (R : List (κ × Int)) (a : κ) : List (κ × Int) := R.filter fun p => decide (p.1 ≠ a)
def rset (R : List (κ × Int)) (a : κ) (t : Int) : List (κ × Int) := rdrop R a ++ [(a, t)]
def rhas (R : List (κ × Int)) (a : κ) : Bool := R.any fun p => decide (p.1 = a)
def earlier (b y : κ × Int) : κ × Int := if y.2 < b.2 then y else b
def nxt : List (κ × Int) → Option (κ × Int)
  | [] => none
  | x :: r => some (r.foldl earlier x)

def tri (e : Ent κ) : κ × Int × Nat := (e.key, e.time, e.turn)
def two (t : κ × Int × Nat) : κ × Int := (t.1, t.2.1)
structure Inv (ok : κ → Prop) (L : List (Ent κ)) (n ck : Nat) (R : List (κ × Int)) : Prop where
  fine : Fine ok L
  born : (L.map (·.born)).Nodup
  lt : ∀ e ∈ L, e.born < ck
  said : ∃ T : List (κ × Int × Nat), T.Pairwise (fun a b => a.2.2 < b.2.2) ∧ (∀ t ∈ T, t.2.2 ≤ n) ∧ (L.map tri).Perm T ∧ R = T.map two

theorem inv_nil : Inv ok ([] : List (Ent κ)) 0 0 [] :=
  ⟨⟨by simp, by simp⟩, by simp, by simp, [], by simp, by simp, by simp, by simp⟩

theorem inv_len {L : List (Ent κ)} {n ck : Nat} {R : List (κ × Int)} (h : Inv ok L n ck R) : L.length = R.length := by
  obtain ⟨T, _, _, hp, rfl⟩ := h.said
  have := hp.length_eq
  simpa using this

theorem inv_has {L : List (Ent κ)} {n ck : Nat} {R : List (κ × Int)} (h : Inv ok L n ck R) (a : κ) : hasKey L a = rhas R a := by
  obtain ⟨T, _, _, hp, rfl⟩ := h.said
  rw [Bool.eq_iff_iff, hasKey_true]
  simp only [rhas, List.any_eq_true, decide_eq_true_eq, List.mem_map]
  constructor
  · rintro ⟨e, he, rfl⟩
    exact ⟨two (tri e), ⟨tri e, hp.mem_iff.1 (List.mem_map_of_mem he), rfl⟩, rfl⟩
  · rintro ⟨_, ⟨t, ht, rfl⟩, h⟩
    obtain ⟨e, he, rfl⟩ := List.mem_map.1 (hp.mem_iff.2 ht)
    exact ⟨e, he, h⟩

theorem inv_drop {L : List (Ent κ)} {n ck : Nat} {R : List (κ × Int)} (h : Inv ok L n ck R) (a : κ) : Inv ok (dropKey L a) n ck (rdrop R a) := by
  obtain ⟨T, h1, h2, hp, rfl⟩ := h.said
  refine ⟨fine_filter h.fine _, h.born.sublist (List.filter_sublist.map _), fun e he => h.lt e (List.mem_filter.1 he).1, T.filter (fun t => decide (t.1 ≠ a)), h1.filter _, fun t ht => h2 t (List.mem_filter.1 ht).1, ?_, ?_⟩
  · have := hp.filter (fun t => decide (t.1 ≠ a))
    rw [List.filter_map] at this
    exact this
  · unfold rdrop
    rw [List.filter_map]
    rfl

theorem perm_put {a : κ} : ∀ {L : List (Ent κ)} {e0 : Ent κ}, (L.map (·.key)).Nodup → e0 ∈ L → e0.key = a → ∀ (t : Int) (u : Nat),
    ((L.map fun e => if e.key = a then { e with time := t, turn := u } else e).map tri).Perm ((L.map tri).filter (fun t => decide (t.1 ≠ a)) ++ [(a, t, u)])
  | [], e0, _, h, _, _, _ => by simp at h
  | x :: L, e0, hn, h, hk, t, u => by
    simp only [List.map_cons, List.nodup_cons, List.mem_map, not_exists, not_and] at hn
    by_cases hx : x.key = a
    · have hr : (L.map fun e => if e.key = a then { e with time := t, turn := u } else e) = L := by
        conv => rhs; rw [← List.map_id L]
        refine List.map_congr_left fun y hy => ?_
        rw [if_neg (fun h => hn.1 y hy (by rw [h, hx]))]
        rfl
      have hf : (L.map tri).filter (fun t => decide (t.1 ≠ a)) = L.map tri := List.filter_eq_self.2 fun y hy => by
        obtain ⟨z, hz, rfl⟩ := List.mem_map.1 hy
        exact decide_eq_true (fun h : z.key = a => hn.1 z hz (by rw [h, hx]))
      simp only [List.map_cons, hx, if_true, hr]
      rw [List.filter_cons_of_neg (by simp [tri, hx]), hf]
      have : tri ({ key := a, time := t, turn := u, born := x.born } : Ent κ) = (a, t, u) := rfl
      rw [this]
      exact (List.perm_append_singleton _ _).symm
    · have h' : e0 ∈ L := by
        rcases List.mem_cons.1 h with h | h
        · exact absurd (h ▸ hk) hx
        · exact h
      simp only [List.map_cons, hx, if_false]
      rw [List.filter_cons_of_pos (by exact decide_eq_true hx), List.cons_append]
      exact (perm_put hn.2 h' hk t u).cons _

theorem inv_set {L : List (Ent κ)} {n ck : Nat} {R : List (κ × Int)} (h : Inv ok L n ck R) {a : κ} (ha : ok a) (t : Int) :
    Inv ok (putKey L a t (n + 1) ck) (n + 1) (if hasKey L a then ck else ck + 1) (rset R a t) := by
  obtain ⟨T, h1, h2, hp, rfl⟩ := h.said
  have hT : ((T.filter (fun t => decide (t.1 ≠ a))) ++ [(a, t, n + 1)]).Pairwise (fun a b => a.2.2 < b.2.2) := by
    rw [List.pairwise_append]
    refine ⟨h1.filter _, by simp, fun x hx y hy => ?_⟩
    have := h2 x (List.mem_filter.1 hx).1
    simp at hy
    subst hy
    simp
    omega
  have hT2 : ∀ x ∈ (T.filter (fun t => decide (t.1 ≠ a))) ++ [(a, t, n + 1)], x.2.2 ≤ n + 1 := by
    intro x hx
    rcases List.mem_append.1 hx with hx | hx
    · have := h2 x (List.mem_filter.1 hx).1
      omega
    · simp at hx
      subst hx
      simp
  have hR : rset (T.map two) a t = ((T.filter (fun t => decide (t.1 ≠ a))) ++ [(a, t, n + 1)]).map two := by
    unfold rset rdrop
    rw [List.filter_map, List.map_append]
    rfl
  unfold putKey
  cases hk : hasKey L a with
  | false =>
    have hne := hasKey_false.1 hk
    simp only [Bool.false_eq_true, if_false]
    refine ⟨⟨fun e he => ?_, ?_⟩, ?_, fun e he => ?_, _, hT, hT2, ?_, hR⟩
    · rcases List.mem_append.1 he with he | he
      · exact h.fine.ok e he
      · simp at he
        subst he
        exact ha
    · rw [List.map_append, List.nodup_append]
      refine ⟨h.fine.nodup, by simp, fun x hx y hy => ?_⟩
      obtain ⟨e, he, rfl⟩ := List.mem_map.1 hx
      simp at hy
      subst hy
      exact hne e he
    · rw [List.map_append, List.nodup_append]
      refine ⟨h.born, by simp, fun x hx y hy => ?_⟩
      obtain ⟨e, he, rfl⟩ := List.mem_map.1 hx
      simp at hy
      subst hy
      have := h.lt e he
      omega
    · rcases List.mem_append.1 he with he | he
      · have := h.lt e he
        omega
      · simp at he
        subst he
        simp
    · rw [List.map_append]
      refine List.Perm.append ?_ (by simp [tri])
      have hf : T.filter (fun t => decide (t.1 ≠ a)) = T := List.filter_eq_self.2 fun t ht => by
        obtain ⟨e, he, rfl⟩ := List.mem_map.1 (hp.mem_iff.2 ht)
        exact decide_eq_true (p := (tri e).1 ≠ a) (hne e he)
      rw [hf]
      exact hp
  | true =>
    obtain ⟨e0, he0, hk0⟩ := hasKey_true.1 hk
    simp only [if_true]
    have hkeys : (L.map fun e => if e.key = a then { e with time := t, turn := n + 1 } else e).map (·.key) = L.map (·.key) := by
      rw [List.map_map]
      refine List.map_congr_left fun e _ => ?_
      simp only [Function.comp]
      split <;> rfl
    have hborn : (L.map fun e => if e.key = a then { e with time := t, turn := n + 1 } else e).map (·.born) = L.map (·.born) := by
      rw [List.map_map]
      refine List.map_congr_left fun e _ => ?_
      simp only [Function.comp]
      split <;> rfl
    refine ⟨⟨fun e he => ?_, by rw [hkeys]; exact h.fine.nodup⟩, by rw [hborn]; exact h.born, fun e he => ?_, _, hT, hT2, ?_, hR⟩
    · obtain ⟨e', he', rfl⟩ := List.mem_map.1 he
      have := h.fine.ok e' he'
      split <;> simpa using this
    · obtain ⟨e', he', rfl⟩ := List.mem_map.1 he
      have := h.lt e' he'
      split <;> simpa using this
    · refine List.Perm.trans ?_ (List.Perm.append_right _ (hp.filter (fun t => decide (t.1 ≠ a))))
      exact perm_put h.fine.nodup he0 hk0 t (n + 1)

theorem nxt_split {x e : κ × Int} : ∀ (A B : List (κ × Int)), (∀ a ∈ x :: A, e.2 < a.2) → (∀ b ∈ B, ¬ b.2 < e.2) → (A ++ e :: B).foldl earlier x = e
  | [], B, hA, hB => by
    have h1 : earlier x e = e := if_pos (hA x (by simp))
    simp only [List.nil_append, List.foldl_cons, h1]
    clear h1 hA
    induction B with
    | nil => rfl
    | cons b B ih =>
      have h2 : earlier e b = e := if_neg (hB b (by simp))
      simp only [List.foldl_cons, h2]
      exact ih fun y hy => hB y (by simp [hy])
  | a :: A, B, hA, hB => by
    simp only [List.cons_append, List.foldl_cons]
    refine nxt_split A B (fun y hy => ?_) hB
    rcases List.mem_cons.1 hy with rfl | hy
    · unfold earlier
      split
      · exact hA a (by simp)
      · exact hA x (by simp)
    · exact hA y (by simp [hy])

theorem nxt_of_split {e : κ × Int} (A B : List (κ × Int)) (hA : ∀ a ∈ A, e.2 < a.2) (hB : ∀ b ∈ B, ¬ b.2 < e.2) : nxt (A ++ e :: B) = some e := by
  cases A with
  | nil =>
    simp only [List.nil_append, nxt, Option.some.injEq]
    induction B with
    | nil => rfl
    | cons b B ih =>
      have h2 : earlier e b = e := if_neg (hB b (by simp))
      simp only [List.foldl_cons, h2]
      exact ih fun y hy => hB y (by simp [hy])
  | cons a A =>
    simp only [List.cons_append, nxt, Option.some.injEq]
    exact nxt_split A B hA hB

/-- What the loop over the map finds is what the list says. -/
theorem inv_nxt {L : List (Ent κ)} {n ck : Nat} {R : List (κ × Int)} (h : Inv ok L n ck R) {e : Ent κ} (he : e ∈ L) (hb : ∀ d ∈ L, ¬ (d.time < e.time ∨ d.time = e.time ∧ d.turn < e.turn)) :
    nxt R = some (e.key, e.time) := by
  obtain ⟨T, h1, h2, hp, rfl⟩ := h.said
  have hm : tri e ∈ T := hp.mem_iff.1 (List.mem_map_of_mem he)
  obtain ⟨A, B, rfl⟩ := List.append_of_mem hm
  have hT : ∀ t ∈ A ++ tri e :: B, ¬ (t.2.1 < e.time ∨ t.2.1 = e.time ∧ t.2.2 < e.turn) := by
    intro t ht
    obtain ⟨d, hd, rfl⟩ := List.mem_map.1 (hp.mem_iff.2 ht)
    exact hb d hd
  have hA : ∀ t ∈ A, e.time < t.2.1 := by
    intro t ht
    have ha := hT t (by simp [ht])
    have hlt : t.2.2 < e.turn := (List.pairwise_append.1 h1).2.2 t ht (tri e) (by simp)
    omega
  rw [List.map_append, List.map_cons]
  refine nxt_of_split _ _ (fun a ha => ?_) (fun b hb' => ?_)
  · obtain ⟨t, ht, rfl⟩ := List.mem_map.1 ha
    exact hA t ht
  · obtain ⟨t, ht, rfl⟩ := List.mem_map.1 hb'
    have := hT t (by simp [ht])
    simp only [two, tri]
    omega

theorem inv_nxt_nil {n ck : Nat} {R : List (κ × Int)} (h : Inv ok ([] : List (Ent κ)) n ck R) : R = [] := by
  have := inv_len h
  exact List.eq_nil_of_length_eq_zero (by simpa using this.symm)

theorem foldl_mem : ∀ (r : List (κ × Int)) (x : κ × Int), r.foldl earlier x ∈ x :: r
  | [], x => by simp
  | y :: r, x => by
    simp only [List.foldl_cons]
    rcases List.mem_cons.1 (foldl_mem r (earlier x y)) with h | h
    · rw [h]
      unfold earlier
      split <;> simp
    · simp [h]
theorem nxt_mem {R : List (κ × Int)} {p : κ × Int} (h : nxt R = some p) : p ∈ R := by
  cases R with
  | nil => simp [nxt] at h
  | cons x r =>
    simp only [nxt, Option.some.injEq] at h
    rw [← h]
    exact foldl_mem r x
theorem rhas_of_mem {R : List (κ × Int)} {p : κ × Int} (h : p ∈ R) : rhas R p.1 = true := by
  simp only [rhas, List.any_eq_true, decide_eq_true_eq]
  exact ⟨p, h, rfl⟩
theorem inv_ok {L : List (Ent κ)} {n ck : Nat} {R : List (κ × Int)} (h : Inv ok L n ck R) {p : κ × Int} (hp : p ∈ R) : ok p.1 := by
  have := rhas_of_mem hp
  rw [← inv_has h] at this
  obtain ⟨e, he, hk⟩ := hasKey_true.1 this
  rw [← hk]
  exact h.fine.ok e he
/-- What a pop takes. -/
def due (R : List (κ × Int)) (now : Int) : Option κ := match nxt R with
  | some p => if now < p.2 then none else some p.1
  | none => none
def rpop (R : List (κ × Int)) (now : Int) : List (κ × Int) := match due R now with
  | some a => rdrop R a
  | none => R

/-! ### 6. A table in memory -/
def Tbl (enc : κ → Value) (ok : κ → Prop) (tT : TypeId) (w : World) (b m n : Nat) (R : List (κ × Int)) : Prop :=
  w.heap[b]? = some (.cells #[.map (some m), .int .u64 (n : Int)] tT) ∧ ∃ L ck, MapIs enc w m L ck ∧ Inv ok L n ck R

section
variable {tT b m n : Nat} {w w' : World} {R : List (κ × Int)}
theorem Tbl.cell0 (h : Tbl enc ok tT w b m n R) : w.cell? ⟨b, 0, none⟩ = some (.map (some m)) := by simp [World.cell?, h.1]
theorem Tbl.cell1 (h : Tbl enc ok tT w b m n R) : w.cell? ⟨b, 1, none⟩ = some (.int .u64 (n : Int)) := by simp [World.cell?, h.1]
theorem Tbl.free1 (h : Tbl enc ok tT w b m n R) : w.frozen? ⟨b, 1, none⟩ = false := by simp [World.frozen?, h.1]
theorem Tbl.ne (h : Tbl enc ok tT w b m n R) : b ≠ m := by
  rintro rfl
  obtain ⟨h1, L, ck, h2, _⟩ := h
  unfold MapIs at h2
  rw [h1] at h2
  simp at h2
theorem Tbl.lt (h : Tbl enc ok tT w b m n R) : b < w.heap.size := lt_of_block h.1
theorem Tbl.ltm (h : Tbl enc ok tT w b m n R) : m < w.heap.size := by
  obtain ⟨h1, L, ck, h2, _⟩ := h
  exact lt_of_block h2
theorem Tbl.okOf (h : Tbl enc ok tT w b m n R) {p : κ × Int} (hp : p ∈ R) : ok p.1 := by
  obtain ⟨_, L, ck, _, hi⟩ := h
  exact inv_ok hi hp
theorem Tbl.upd {S : Nat → Prop} (h : Tbl enc ok tT w b m n R) (u : Upd S w w') (hb : ¬ S b) (hm : ¬ S m) : Tbl enc ok tT w' b m n R := by
  obtain ⟨h1, L, ck, h2, h3⟩ := h
  exact ⟨u.heap h1 hb, L, ck, u.heap h2 hm, h3⟩
theorem Tbl.made {ml ms : Nat} (hm : w.heap[m]? = some (.map #[] 0)) (hb : w.heap[b]? = some (.cells #[.map (some m), .int .u64 0] tT)) : Tbl enc ok tT w b m 0 ([] : List (κ × Int)) :=
  ⟨hb, [], 0, hm, inv_nil⟩
end

/-- The blocks of one table. -/
def Two (b m : Nat) (i : Nat) : Prop := i = b ∨ i = m

theorem setCell_block {w : World} {g i : Nat} {cs : Array Value} {t : TypeId} {v : Value} (h : w.heap[g]? = some (.cells cs t)) : (w.setCell ⟨g, i, none⟩ v).heap[g]? = some (.cells (cs.setIfInBounds i v) t) := by
  simp [World.setCell, Array.getElem?_modify, h]

def Just (f i : Nat) : Prop := i = f
theorem first_set {W1 : World} {f : Nat} {a b : Value} {v0 v1 : Value} {t : TypeId} (h : W1.heap[f]? = some (.cells #[a, b] t)) : ((W1.setCell ⟨f, 0, none⟩ v0).setCell ⟨f, 1, none⟩ v1).heap[f]? = some (.cells #[v0, v1] t) := by
  have h1 := setCell_block (i := 0) (v := v0) h
  have h2 := setCell_block (i := 1) (v := v1) h1
  simpa using h2

theorem tbl_set (K : KK P k enc ok) {T : TypeId} (ht : P.underlying T = some (.map k E)) {tT b m n : Nat} {w : World} {R : List (κ × Int)} (h : Tbl enc ok tT w b m n R) {a : κ} (ha : ok a) (t : Int) :
    ∃ W, (Instr.mapUpdate T (.map (some m)) (enc a) (.agg #[.int .i64 t, .int .u64 ((n : Int) + 1)])).run P ((w.setCell ⟨b, 1, none⟩ (.int .u64 ((n : Int) + 1))).drew) = .ok () W ∧ Tbl enc ok tT W b m (n + 1) (rset R a t) ∧ Upd (Two b m) w W := by
  have hne := h.ne
  have hlm := h.ltm
  obtain ⟨h1, L, ck, h2, h3⟩ := h
  have h2' : MapIs enc (w.setCell ⟨b, 1, none⟩ (.int .u64 ((n : Int) + 1))).drew m L ck := by
    unfold MapIs
    exact (Below.heap_setCell w ⟨b, 1, none⟩ _ m (fun e => hne e.symm)).trans h2
  have hrun := run_update_tbl K ht h2' h3.fine ha t (n + 1)
  have hrun' := hrun
  simp only [valOf] at hrun'
  refine ⟨_, hrun', ⟨?_, _, _, ?_, inv_set h3 ha t⟩, ?_⟩
  · have hb' : (w.setCell ⟨b, 1, none⟩ (.int .u64 ((n : Int) + 1))).drew.heap[b]? = some (.cells #[.map (some m), .int .u64 ((n : Int) + 1)] tT) := by
      have := setCell_block (i := 1) (v := .int .u64 ((n : Int) + 1)) h1
      show (w.setCell ⟨b, 1, none⟩ (.int .u64 ((n : Int) + 1))).heap[b]? = _
      simpa using this
    simp only [World.putObj, Array.getElem?_setIfInBounds]
    rw [if_neg (fun e => hne e.symm)]
    exact_mod_cast hb'
  · exact putObj_heap (by simpa using hlm)
  · exact ((((Upd.refl _ w).setCell ⟨b, 1, none⟩ _ (fun _ => .inl rfl)).drew).putObj m _ (fun _ => .inr rfl))

theorem tbl_stop (K : KK P k enc ok) {T : TypeId} (ht : P.underlying T = some (.map k E)) (hz : ∀ w, (zeroValue E).run P w = .ok (valOf 0 0) w) {tT b m n : Nat} {w : World} {R : List (κ × Int)}
    (h : Tbl enc ok tT w b m n R) {a : κ} (ha : ok a) (kt ty : TypeId) :
    ∃ t u, (Instr.lookup T (.map (some m)) (enc a) true).run P w = .ok (.tuple #[.agg #[.int .i64 t, .int .u64 u], .bool (rhas R a)]) w ∧
      ∀ o : Obj, ∃ W, (Builtin.delete_ #[T, kt] ty #[.map (some m), enc a]).run P (w.alloc o) = .ok (.tuple #[]) W ∧ Tbl enc ok tT W b m n (rdrop R a) ∧ Upd (Two b m) w W := by
  have hne := h.ne
  have hlm := h.ltm
  have hlb := h.lt
  obtain ⟨h1, L, ck, h2, h3⟩ := h
  obtain ⟨t, u, hl⟩ := run_lookup_tbl K ht hz h2 h3.fine ha
  rw [inv_has h3] at hl
  refine ⟨t, u, hl, fun o => ?_⟩
  have u1 : Upd (Two b m) w (w.alloc o) := (Upd.refl _ w).alloc o
  have h2' : MapIs enc (w.alloc o) m L ck := (Below.heap_alloc w o m hlm).trans h2
  have hd := run_delete_tbl K ht h2' h3.fine ha ty kt
  refine ⟨_, hd, ⟨?_, _, _, putObj_heap (by simp; omega), inv_drop h3 a⟩, u1.putObj m _ (fun _ => .inr rfl)⟩
  simp only [World.putObj, Array.getElem?_setIfInBounds]
  rw [if_neg (fun e => hne e.symm)]
  exact (Below.heap_alloc w o b hlb).trans h1

theorem tbl_len {tT b m n : Nat} {w : World} {R : List (κ × Int)} {T : TypeId} (ht : P.underlying T = some (.map k E)) (h : Tbl enc ok tT w b m n R) (ty : TypeId) :
    (Builtin.len_ #[T] ty #[.map (some m)]).run P w = .ok (.int .i64 (R.length : Int)) w := by
  obtain ⟨h1, L, ck, h2, h3⟩ := h
  have := run_getMap (P := P) h2
  simp [Builtin.len_, this, run_underlying ht, goInt, inv_len h3]
end
end Go.Proofs.Ytgfpeppaimhgiaa
