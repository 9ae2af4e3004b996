/- The evaluator S and what it says of functions: To, Bx, By, Bz, Tp, Tr, Ca, Tq, Cb, V22. -/
import Derived.Test.YtebaiioejagfoaaGreatDoorTn
import Derived.Test.YtebaiioejagfoaaGreatDoorV40
import Derived.WalkKit
import Derived.Test.YtebaiioejagfoaaGreatDoorTa
/- Packages in memory: the array and its inner slices, as an object of S. -/
namespace Go.Proofs.YtebaiioejagfoaaGreatDoor
open Go
set_option linter.unusedVariables false
set_option linter.unusedSimpArgs false
set_option maxHeartbeats 4000000
def Ne (s : List TPkg) (i c : Nat) : Prop := i < s.length ∧ ((c = 2 ∧ (nth s i).files ≠ []) ∨ (c = 3 ∧ (nth s i).deps ≠ []))
def pkV (p : TPkg) (s1 s2 : Value) : Value := .agg #[.int .i64 p.name, .int .i64 p.ver, s1, s2]
structure PkS (w : World) (b m : Nat) (f : Nat → Nat → Nat) (ins : List Nat) (s : List TPkg) (vs : List Value) : Prop where
  cap : s.length ≤ m
  len : vs.length = s.length
  el : ∀ i, i < s.length → ∃ s1 s2, vs[i]? = some (pkV (nth s i) s1 s2) ∧ In w (f i 2) ((nth s i).files.map eFile) s1 ∧ In w (f i 3) ((nth s i).deps.map eDep) s2
  cells : CellsAt w b 0 (flatV vs)
  room : Room w b (m * 4) 4
  out : b ∉ ins
  mem : ∀ i c, Ne s i c → f i c ∈ ins
  inj : ∀ i c i' c', Ne s i c → Ne s i' c' → f i c = f i' c' → i = i' ∧ c = c'
theorem ne_files {p : TPkg} : p.files.map eFile ≠ [] ↔ p.files ≠ [] := by simp
theorem ne_deps {p : TPkg} : p.deps.map eDep ≠ [] ↔ p.deps ≠ [] := by simp
theorem pk_one {p : TPkg} {s1 s2 : Value} (h1 : s1.oneCell' = true) (h2 : s2.oneCell' = true) : ElOK 4 (pkV p s1 s2) := ⟨rfl, fun c hc => by
  simp [pkV, Value.cells] at hc
  rcases hc with rfl | rfl | rfl | rfl <;> first | rfl | assumption⟩
theorem pk_rep {w : World} {B : Nat → Prop} {g : Nat → Gh} {p : TPkg} {s1 s2 : Value} (h1 : RepV w B g (.sl 2 (p.files.map eFile)) s1) (h2 : RepV w B g (.sl 2 (p.deps.map eDep)) s2) (o1 : s1.oneCell' = true) (o2 : s2.oneCell' = true) : RepV w B g (ePkg p) (pkV p s1 s2) := by
  refine .ag (vs := [.int .i64 p.name, .int .i64 p.ver, s1, s2]) rfl (fun i x v hx hv => ?_) (fun v hv => ?_)
  · match i with
    | 0 => cases hx; cases hv; exact .v rfl
    | 1 => cases hx; cases hv; exact .v rfl
    | 2 => cases hx; cases hv; exact h1
    | 3 => cases hx; cases hv; exact h2
    | i + 4 => cases hx
  · simp at hv; rcases hv with rfl | rfl | rfl | rfl <;> first | rfl | assumption
theorem vs_get {vs : List Value} {i : Nat} {v : Value} (hv : v ∈ vs) : ∃ i, i < vs.length ∧ vs[i]? = some v := by
  obtain ⟨i, hi, e⟩ := List.mem_iff_getElem.1 hv
  exact ⟨i, hi, by rw [List.getElem?_eq_getElem hi, e]⟩
theorem PkS.ok {w : World} {b m : Nat} {f : Nat → Nat → Nat} {ins : List Nat} {s : List TPkg} {vs : List Value} (h : PkS w b m f ins s vs) : ∀ v : Value, v ∈ vs → ElOK 4 v := fun v hv => by
  obtain ⟨i, hi, e⟩ := vs_get (i := 0) hv
  obtain ⟨s1, s2, h1, h2, h3⟩ := h.el i (by rw [← h.len]; exact hi)
  rw [e] at h1; cases h1
  exact pk_one h2.one h3.one
theorem mem_le_sum {l : List Nat} {x : Nat} (h : x ∈ l) : x ≤ l.sum := by
  induction l with
  | nil => cases h
  | cons y l ih =>
    rcases List.mem_cons.1 h with rfl | h
    · simp
    · have := ih h; simp only [List.sum_cons]; omega
theorem pair_lt {n n' c c' : Nat} (h1 : c ≤ n) (h2 : n < n') : n * n + c < n' * n' + c' := by
  have h3 : (n + 1) * (n + 1) ≤ n' * n' := Nat.mul_le_mul h2 h2
  have h4 : (n + 1) * (n + 1) = n * n + n + n + 1 := by rw [Nat.add_mul, Nat.mul_add]; omega
  omega
theorem pair_inj {i c i' c' : Nat} (h : (i + c) * (i + c) + c = (i' + c') * (i' + c') + c') : i = i' ∧ c = c' := by
  rcases Nat.lt_trichotomy (i + c) (i' + c') with h1 | h1 | h1
  · have := pair_lt (c := c) (c' := c') (by omega) h1; omega
  · rw [h1] at h; omega
  · have := pair_lt (c := c') (c' := c) (by omega) h1; omega
open Classical in
noncomputable def allF (s : List TPkg) (f : Nat → Nat → Nat) (ins : List Nat) (i c : Nat) : Nat := if Ne s i c then f i c else ins.sum + 1 + ((i + c) * (i + c) + c)
theorem allF_inj {w : World} {b m : Nat} {f : Nat → Nat → Nat} {ins : List Nat} {s : List TPkg} {vs : List Value} (h : PkS w b m f ins s vs) : ∀ i c i' c', allF s f ins i c = allF s f ins i' c' → i = i' ∧ c = c' := by
  intro i c i' c' e
  unfold allF at e
  by_cases h1 : Ne s i c
  · by_cases h2 : Ne s i' c'
    · rw [if_pos h1, if_pos h2] at e; exact h.inj _ _ _ _ h1 h2 e
    · rw [if_pos h1, if_neg h2] at e; have := mem_le_sum (h.mem _ _ h1); omega
  · by_cases h2 : Ne s i' c'
    · rw [if_neg h1, if_pos h2] at e; have := mem_le_sum (h.mem _ _ h2); omega
    · rw [if_neg h1, if_neg h2] at e; exact pair_inj (by omega)
theorem allF_pos {s : List TPkg} {f : Nat → Nat → Nat} {ins : List Nat} {i c : Nat} (h : Ne s i c) : allF s f ins i c = f i c := by unfold allF; rw [if_pos h]
theorem map_get {α : Type} [Inhabited α] {l : List α} {e : α → SV} {i : Nat} {x : SV} (h : (l.map e)[i]? = some x) : i < l.length ∧ x = e (nth l i) := by
  rw [List.getElem?_map] at h
  obtain ⟨y, hy, rfl⟩ := Option.map_eq_some_iff.1 h
  have hi := lt_of_getElem? hy
  rw [get_nth hi] at hy
  cases hy
  exact ⟨hi, rfl⟩
theorem get_map {α : Type} [Inhabited α] {l : List α} {e : α → SV} {i : Nat} (h : i < l.length) : (l.map e)[i]? = some (e (nth l i)) := by rw [List.getElem?_map, get_nth h]; rfl
theorem PkS.obj {w : World} {b m : Nat} {f : Nat → Nat → Nat} {ins : List Nat} {s : List TPkg} {vs : List Value} (h : PkS w b m f ins s vs) {g : Nat → Gh} {j : Nat} (hg : g j = .nst b 4 s.length m ins) (lt : Bool) (B : Nat → Prop) : ObjOK w B g j (.nst lt 4 (s.map ePkg)) := by
  refine .inr ⟨b, m, vs, ins, by rw [List.length_map]; exact hg, by rw [List.length_map]; exact h.cap, ⟨by rw [List.length_map]; exact h.len.symm, fun i x v hx hv => ?_⟩, h.ok, h.cells, h.room, h.out, allF s f ins, ?_, allF_inj h⟩
  · obtain ⟨hi, rfl⟩ := map_get hx
    obtain ⟨s1, s2, h1, h2, h3⟩ := h.el i hi
    rw [hv] at h1; cases h1
    exact pk_rep (h2.rep (two_files _) (fun hn => h.mem i 2 ⟨hi, .inl ⟨rfl, ne_files.1 hn⟩⟩) _) (h3.rep (two_deps _) (fun hn => h.mem i 3 ⟨hi, .inr ⟨rfl, ne_deps.1 hn⟩⟩) _) h2.one h3.one
  · intro i c x v sz mm hx hv hc hm
    obtain ⟨hi, rfl⟩ := map_get hx
    obtain ⟨s1, s2, h1, h2, h3⟩ := h.el i hi
    rw [hv] at h1; cases h1
    match c with
    | 0 => cases hc
    | 1 => cases hc
    | 2 =>
      obtain ⟨rfl, rfl⟩ : 2 = sz ∧ (nth s i).files.map eFile = mm := by injection hc with hc; injection hc with h1 h2; exact ⟨h1, h2⟩
      have hne : Ne s i 2 := ⟨hi, .inl ⟨rfl, ne_files.1 hm⟩⟩
      rw [allF_pos hne]
      rcases h2 with ⟨h9, -⟩ | ⟨-, cap, rfl, h5, h6, h7⟩
      · exact absurd h9 hm
      · exact ⟨h.mem _ _ hne, cap, rfl, h7⟩
    | 3 =>
      obtain ⟨rfl, rfl⟩ : 2 = sz ∧ (nth s i).deps.map eDep = mm := by injection hc with hc; injection hc with h1 h2; exact ⟨h1, h2⟩
      have hne : Ne s i 3 := ⟨hi, .inr ⟨rfl, ne_deps.1 hm⟩⟩
      rw [allF_pos hne]
      rcases h3 with ⟨h9, -⟩ | ⟨-, cap, rfl, h5, h6, h7⟩
      · exact absurd h9 hm
      · exact ⟨h.mem _ _ hne, cap, rfl, h7⟩
    | c + 4 => cases hc
theorem sl_nil {w : World} {B : Nat → Prop} {g : Nat → Gh} {sz : Nat} {l : List SV} {v : Value} (h : RepV w B g (.sl sz l) v) (hl : l = []) : ∃ a c, v = .slice a 0 c := by
  cases h with
  | sl0 => exact ⟨_, _, rfl⟩
  | sl h1 h2 h3 h4 h5 h6 => subst hl; exact ⟨_, _, rfl⟩
theorem In.of_sl {w : World} {B : Nat → Prop} {g : Nat → Gh} {l : List SV} {s : Value} {β cap : Nat} (h2 : Two l) (hr : RepV w B g (.sl 2 l) s) (hf : l ≠ [] → s = .slice (some ⟨β, 0, none⟩) l.length cap ∧ Room w β (cap * 2) 2) : In w β l s := by
  by_cases hl : l = []
  · exact .inl ⟨hl, sl_nil hr hl⟩
  · obtain ⟨rfl, hR⟩ := hf hl
    refine .inr ⟨hl, cap, rfl, ?_⟩
    generalize hx : SV.sl 2 l = x at hr
    generalize hv : Value.slice (some ⟨β, 0, none⟩) l.length cap = v at hr
    cases hr <;> cases hx
    · exact absurd rfl hl
    · rename_i a1 a2 a3 a4 a5 a6
      injection hv with q1 q2 q3
      injection q1 with q1
      injection q1 with q4 q5 q6
      subst q3 q4 q5
      obtain rfl := twL_of h2 ⟨a4, a5⟩
      exact ⟨a6, a1, hR⟩
theorem PkS.of {w : World} {B : Nat → Prop} {g : Nat → Gh} {j : Nat} {lt : Bool} {s : List TPkg} (ho : ObjOK w B g j (.nst lt 4 (s.map ePkg))) (hs : s ≠ []) : ∃ b m f ins vs, g j = .nst b 4 s.length m ins ∧ PkS w b m f ins s vs := by
  rcases ho with ⟨h1, -⟩ | ⟨b, m, vs, ins, h1, h2, h3, h4, h5, h6, h7, f, f1, f2⟩
  · exact absurd (List.map_eq_nil_iff.1 h1) hs
  · rw [List.length_map] at h1 h2
    refine ⟨b, m, f, ins, vs, h1, h2, by rw [← h3.1, List.length_map], fun i hi => ?_, h5, h6, h7, fun i c hc => ?_, fun i c i' c' _ _ e => f2 _ _ _ _ e⟩
    · obtain ⟨v, hv, hr⟩ := h3.get (get_map (e := ePkg) hi)
      obtain ⟨v0, v1, v2, v3, rfl, r0, r1, r2, r3⟩ := ag4 hr
      obtain rfl := iI_rep r0
      obtain rfl := iI_rep r1
      refine ⟨v2, v3, hv, ?_, ?_⟩
      · by_cases hn : (nth s i).files.map eFile = []
        · exact .inl ⟨hn, sl_nil r2 hn⟩
        · obtain ⟨-, cap, e, hR⟩ := f1 i 2 _ _ 2 _ (get_map (e := ePkg) hi) hv rfl hn
          obtain rfl : v2 = _ := Option.some.inj e
          exact In.of_sl (two_files _) r2 fun _ => ⟨rfl, hR⟩
      · by_cases hn : (nth s i).deps.map eDep = []
        · exact .inl ⟨hn, sl_nil r3 hn⟩
        · obtain ⟨-, cap, e, hR⟩ := f1 i 3 _ _ 2 _ (get_map (e := ePkg) hi) hv rfl hn
          obtain rfl : v3 = _ := Option.some.inj e
          exact In.of_sl (two_deps _) r3 fun _ => ⟨rfl, hR⟩
    · obtain ⟨hi, hc⟩ := hc
      obtain ⟨v, hv, hr⟩ := h3.get (get_map (e := ePkg) hi)
      rcases hc with ⟨rfl, hc⟩ | ⟨rfl, hc⟩
      · exact (f1 i 2 _ _ 2 _ (get_map (e := ePkg) hi) hv rfl (ne_files.2 hc)).1
      · exact (f1 i 3 _ _ 2 _ (get_map (e := ePkg) hi) hv rfl (ne_deps.2 hc)).1
theorem PkS.upd {w w' : World} {b m : Nat} {f f' : Nat → Nat → Nat} {ins ins' : List Nat} {s : List TPkg} {vs : List Value} (h : PkS w b m f ins s vs) {k : Nat} (hk : k < s.length) {p : TPkg} {s1 s2 : Value} (hf : ∀ i c, i ≠ k → f' i c = f i c)
    (hb : CellsAt w' b 0 (flatV (vs.set k (pkV p s1 s2)))) (hr : Room w' b (m * 4) 4) (ho : ∀ i c, i ≠ k → Ne s i c → w'.heap[f i c]? = w.heap[f i c]?) (h1 : In w' (f' k 2) (p.files.map eFile) s1) (h2 : In w' (f' k 3) (p.deps.map eDep) s2) (hout : b ∉ ins')
    (hsub : ∀ c, c ∈ ins → c ∈ ins') (hm1 : p.files ≠ [] → f' k 2 ∈ ins') (hm2 : p.deps ≠ [] → f' k 3 ∈ ins') (hi1 : ∀ i c, i ≠ k → Ne s i c → (p.files ≠ [] → f' k 2 ≠ f i c) ∧ (p.deps ≠ [] → f' k 3 ≠ f i c)) (hi2 : p.files ≠ [] → p.deps ≠ [] → f' k 2 ≠ f' k 3) :
    PkS w' b m f' ins' (s.set k p) (vs.set k (pkV p s1 s2)) := by
  have hnk : nth (s.set k p) k = p := by rw [nth_set', if_pos ⟨rfl, hk⟩]
  have hno : ∀ i, i ≠ k → nth (s.set k p) i = nth s i := fun i hi => by rw [nth_set', if_neg (fun e => hi e.1.symm)]
  have hNo : ∀ i c, i ≠ k → Ne (s.set k p) i c → Ne s i c := fun i c hi hn => by unfold Ne at hn ⊢; rw [hno i hi, List.length_set] at hn; exact hn
  have hNk : ∀ c, Ne (s.set k p) k c → (c = 2 ∧ p.files ≠ []) ∨ (c = 3 ∧ p.deps ≠ []) := fun c hn => by unfold Ne at hn; rw [hnk] at hn; exact hn.2
  refine ⟨by rw [List.length_set]; exact h.cap, by rw [List.length_set, List.length_set]; exact h.len, fun i hi => ?_, hb, hr, hout, fun i c hn => ?_, fun i c i' c' hn hn' e => ?_⟩
  · rw [List.length_set] at hi
    by_cases e : i = k
    · subst e
      rw [hnk]
      exact ⟨s1, s2, by rw [List.getElem?_set_self (by rw [h.len]; exact hk)], h1, h2⟩
    · rw [hno i e, hf i 2 e, hf i 3 e]
      obtain ⟨t1, t2, e1, e2, e3⟩ := h.el i hi
      exact ⟨t1, t2, by rw [List.getElem?_set_ne (fun q => e q.symm)]; exact e1, e2.heap fun hn => ho i 2 e ⟨hi, .inl ⟨rfl, ne_files.1 hn⟩⟩, e3.heap fun hn => ho i 3 e ⟨hi, .inr ⟨rfl, ne_deps.1 hn⟩⟩⟩
  · by_cases e : i = k
    · subst e
      rcases hNk c hn with ⟨rfl, q⟩ | ⟨rfl, q⟩
      · exact hm1 q
      · exact hm2 q
    · rw [hf i c e]; exact hsub _ (h.mem i c (hNo i c e hn))
  · by_cases ek : i = k
    · subst ek
      by_cases ek' : i' = i
      · subst ek'
        refine ⟨rfl, ?_⟩
        rcases hNk c hn with ⟨rfl, q⟩ | ⟨rfl, q⟩ <;> rcases hNk c' hn' with ⟨rfl, q'⟩ | ⟨rfl, q'⟩
        · rfl
        · exact absurd e (hi2 q q')
        · exact absurd e.symm (hi2 q' q)
        · rfl
      · rw [hf i' c' ek'] at e
        have hh := hi1 i' c' ek' (hNo i' c' ek' hn')
        rcases hNk c hn with ⟨rfl, q⟩ | ⟨rfl, q⟩
        · exact absurd e (hh.1 q)
        · exact absurd e (hh.2 q)
    · rw [hf i c ek] at e
      by_cases ek' : i' = k
      · subst ek'
        have hh := hi1 i c ek (hNo i c ek hn)
        rcases hNk c' hn' with ⟨rfl, q⟩ | ⟨rfl, q⟩
        · exact absurd e.symm (hh.1 q)
        · exact absurd e.symm (hh.2 q)
      · rw [hf i' c' ek'] at e
        exact h.inj _ _ _ _ (hNo i c ek hn) (hNo i' c' ek' hn') e
theorem set_cells {w : World} {b m k off : Nat} {vs : List Value} {u u' : Value} {cs : List Value} (hR : Room w b (m * 4) 4) (hc : CellsAt w b 0 (flatV vs)) (h : ∀ v : Value, v ∈ vs → ElOK 4 v) (hu : vs[k]? = some u) (hm : vs.length ≤ m)
    (e : u'.cells.toList = u.cells.toList.take off ++ cs ++ u.cells.toList.drop (off + cs.length)) (ho : off + cs.length ≤ 4) : CellsAt (w.setCells b (k * 4 + off) cs) b 0 (flatV (vs.set k u')) := by
  have hk := lt_of_getElem? hu
  rw [flatV_set h hu e ho]
  exact cells_setCells hR hc (by rw [flatV_length h]; omega) (by omega)
end Go.Proofs.YtebaiioejagfoaaGreatDoor

/- The texts of packages: numbers, names. -/
set_option linter.unusedVariables false
set_option linter.unusedSimpArgs false
namespace Go.Proofs.YtebaiioejagfoaaGreatDoor
open Go Go.Shelf Go.RowKit Go.Lib Go.Proofs
set_option maxHeartbeats 4000000
set_option maxRecDepth 100000
theorem itoa_small (n : Int) (h : 0 ≤ n ∧ n < 10) (w : World) : Calls Tryz.prog 42 #[.int .i64 n] w fun e w' => e = .returned (.string ⟨#[bt (48 + n)]⟩) ∧ w' = w := by
  have mixed : Tryz.prog.follows .mixedOrders = true := by kernel_rfl
  have hc : n = 0 ∨ n = 1 ∨ n = 2 ∨ n = 3 ∨ n = 4 ∨ n = 5 ∨ n = 6 ∨ n = 7 ∨ n = 8 ∨ n = 9 := by omega
  rcases hc with rfl | rfl | rfl | rfl | rfl | rfl | rfl | rfl | rfl | rfl
  all_goals
    go_enter Tryz.func42, Tryz.ntmps42
    go_wp2
    go_ret
    exact ⟨rfl, rfl⟩
theorem named_walk (name ver : Int) (h : 1 ≤ name ∧ name ≤ 4) (hv : 0 ≤ ver ∧ ver < 10) (w : World) : Calls Tryz.prog 41 #[.int .i64 name, .int .i64 ver] w fun e w' => e = .returned (.string ⟨#[bt (96 + name), bt (48 + ver)]⟩) ∧ w' = w := by
  have mixed : Tryz.prog.follows .mixedOrders = true := by kernel_rfl
  have hc : name = 1 ∨ name = 2 ∨ name = 3 ∨ name = 4 := by omega
  rcases hc with rfl | rfl | rfl | rfl
  all_goals
    go_enter Tryz.func41, Tryz.ntmps41
    go_wp2_with (go_at_call 42; refine (itoa_small ver hv _).mono ?_; rintro e w' ⟨rfl, rfl⟩)
    go_ret
    exact ⟨rfl, rfl⟩
end Go.Proofs.YtebaiioejagfoaaGreatDoor

/- The text of a package, walked: strings.Builder, strconv.Itoa. -/
set_option linter.unusedVariables false
set_option linter.unusedSimpArgs false
namespace Go.Proofs.YtebaiioejagfoaaGreatDoor
open Go Go.Shelf Go.RowKit Go.Lib Go.Proofs
set_option maxHeartbeats 4000000
set_option maxRecDepth 100000
theorem wpList_al {P : Program} {ops : Array Oper} {rest : List Oper} {o : Oper} {a : Act} {w w' : World} {Q : Exit → Act → World → Prop} (hgd : o.guard = none) (ty : TypeId) (ho : o.op = .alloc ty)
    (p : Value) (hr : (Instr.alloc ty true (.tuple #[])).run P w = .ok p w') (h : wpList P ops Q rest (a.put o.dst p) w') : wpList P ops Q (o :: rest) a w :=
  wpList_plain hgd fun _ hK => by
    unfold Oper.wp execOp
    simp only [ho, Sem.run_bind, hr, Result.andThen_ok, Sem.run_pure]
    exact hK _ _ h
theorem al_builder (w : World) : (Instr.alloc 81 true (.tuple #[])).run Tryz.prog w = .ok (.pointer (some ⟨w.heap.size, 0, none⟩)) (w.alloc (.cells #[.pointer none, .slice none 0 0] 81)) := by
  simp [Instr.alloc, Tryz.zeroValue81, newVar, newRow, Value.cells]
theorem al_file (w : World) : (Instr.alloc 88 true (.tuple #[])).run Tryz.prog w = .ok (.pointer (some ⟨w.heap.size, 0, none⟩)) (w.alloc (.cells #[.int .i64 0, .int .i64 0] 88)) := by
  simp [Instr.alloc, Tryz.zeroValue88, newVar, newRow, Value.cells]
theorem al_dep (w : World) : (Instr.alloc 91 true (.tuple #[])).run Tryz.prog w = .ok (.pointer (some ⟨w.heap.size, 0, none⟩)) (w.alloc (.cells #[.int .i64 0, .int .i64 0] 91)) := by
  simp [Instr.alloc, Tryz.zeroValue91, newVar, newRow, Value.cells]
theorem bld_keep {T e B b : Nat} {bs : List Value} {w w' : World} (h : Lib.IsBuilderF T e B b bs w) (hw : ∀ k, k < w.heap.size → w'.heap[k]? = w.heap[k]?) : Lib.IsBuilderF T e B b bs w' := by
  have key : ∀ p, Lib.BuilderAtF T e B b p bs w → Lib.BuilderAtF T e B b p bs w' := by
    rintro p ⟨hB, v, hb, hown, hne⟩
    have lt : ∀ {k : Nat} {o : Obj}, w.heap[k]? = some o → k < w.heap.size := fun h => (Array.getElem?_eq_some_iff.1 h).1
    refine ⟨hB, v, by rw [hw b (lt hb)]; exact hb, ⟨hown.1, ?_⟩, hne⟩
    rcases hown.2 with h | ⟨g, cap, cur, fz, h1, h2, h3, h4⟩
    · exact .inl h
    · exact .inr ⟨g, cap, cur, fz, h1, h2, by rw [hw g (lt h3)]; exact h3, h4⟩
  exact h.imp (key _) (key _)
structure Two2 (w W : World) (a b : Int) : Prop where
  c0 : W.cell? ⟨w.heap.size, 0, none⟩ = some (.int .i64 a)
  c1 : W.cell? ⟨w.heap.size, 1, none⟩ = some (.int .i64 b)
  keep : ∀ k, k < w.heap.size → W.heap[k]? = w.heap[k]?
  size : w.heap.size ≤ W.heap.size
  out : SameOut w W
theorem two_new {w : World} {t : Nat} {q : TI} (hq : TiOk Tryz.prog t q) (h2 : q.size = 2) (a b : Int) : ∃ W, (Instr.storeAt t (.pointer (some ⟨w.heap.size, 0, none⟩)) (.agg #[.int .i64 a, .int .i64 b])).run Tryz.prog (w.alloc (.cells #[.int .i64 0, .int .i64 0] t)) = .ok () W ∧ Two2 w W a b := by
  have R0 : Room (w.alloc (.cells #[.int .i64 0, .int .i64 0] t)) w.heap.size 2 1 := room_alloc_new w _ _ _ (by simp)
  have C0 : CellsAt (w.alloc (.cells #[.int .i64 0, .int .i64 0] t)) w.heap.size 0 [.int .i64 0, .int .i64 0] := cells_alloc_new w _ _
  have h1 : ∀ u : Value, u ∈ [Value.int .i64 a, .int .i64 b] → u.oneCell' = true := fun u hu => by
    simp at hu; rcases hu with rfl | rfl <;> rfl
  have hs := run_storeVar (v := .agg #[.int .i64 a, .int .i64 b]) hq R0 (by rw [h2]; rfl) (by show 0 + 2 ≤ 2; omega) h1
  have C1 := cells_setCells (o := 0) (vs := [.int .i64 a, .int .i64 b]) R0 C0 (Nat.zero_le _) (by simp)
  refine ⟨_, hs, ?_, ?_, fun k hk => ?_, ?_, ?_⟩
  · exact C1 0 _ rfl
  · exact C1 1 _ rfl
  · rw [heap_setCells_ne _ k (by omega)]; exact heap_alloc_lt w _ k hk
  · rw [size_setCells]; simp
  · exact (out_alloc w _).trans (out_setCells _ _ _ _)
theorem below_two {B : Nat} {w0 w W : World} {a b : Int} (h : Below B w0 w) (hB : B ≤ w.heap.size) (t : Two2 w W a b) : Below B w0 W :=
  ⟨t.out.1.trans h.os, t.out.2.1.trans h.tape, t.out.2.2.trans h.output, Nat.le_trans h.size t.size, fun k hk => (t.keep k (by omega)).trans (h.block k hk)⟩
def Pairs (w : World) (l : List (Int × Int)) (s : Value) : Prop := ∃ A c, s = .slice A l.length c ∧ (l ≠ [] → ∃ b o, A = some ⟨b, o, none⟩ ∧ b < w.heap.size ∧ ∀ i x y, l[i]? = some (x, y) → w.cell? ⟨b, o + i * 2, none⟩ = some (.int .i64 x) ∧ w.cell? ⟨b, o + i * 2 + 1, none⟩ = some (.int .i64 y))
theorem pairs_of {w : World} {B : Nat → Prop} {g : Nat → Gh} {l : List (Int × Int)} {s : Value} (h : RepV w B g (.sl 2 (l.map fun p => .ag [iI p.1, iI p.2])) s) (hB : ∀ b, B b → b < w.heap.size) : Pairs w l s := by
  obtain ⟨m, hm⟩ : ∃ m : List SV, m = l.map fun p => .ag [iI p.1, iI p.2] := ⟨_, rfl⟩
  have hml : m.length = l.length := by rw [hm, List.length_map]
  rw [← hm] at h
  cases h with
  | sl0 =>
    have : l = [] := List.map_eq_nil_iff.1 hm.symm
    subst this
    exact ⟨_, _, rfl, fun h => absurd rfl h⟩
  | sl a1 a2 a3 a4 a5 a6 =>
    rename_i vs b o c
    rw [hml]
    refine ⟨_, _, rfl, fun _ => ⟨b, o, rfl, hB _ a5, fun i x y hi => ?_⟩⟩
    have hx : m[i]? = some (.ag [iI x, iI y]) := by rw [hm, List.getElem?_map, hi]; rfl
    obtain ⟨v, hv, hr⟩ := RepL.get ⟨a1, a2⟩ hx
    obtain rfl := tw_rep hr
    have hc := flatV_elem a3 hv a4
    exact ⟨hc 0 _ rfl, by have := hc 1 _ rfl; exact this⟩
theorem pairs_ld {w W : World} {l : List (Int × Int)} {b o : Nat} {t : Nat} {q : TI} (hq : TiOk Tryz.prog t q) (h2 : q.size = 2) (ha : q.agg = true) (hcell : ∀ i x y, l[i]? = some (x, y) → w.cell? ⟨b, o + i * 2, none⟩ = some (.int .i64 x) ∧ w.cell? ⟨b, o + i * 2 + 1, none⟩ = some (.int .i64 y))
    (hb : W.heap[b]? = w.heap[b]?) {i : Nat} {x y : Int} (hi : l[i]? = some (x, y)) : (Instr.loadAt t (.pointer (some ⟨b, o + i * 2, none⟩))).run Tryz.prog W = .ok (.agg #[.int .i64 x, .int .i64 y]) W := by
  have hc := hcell i x y hi
  have hC : CellsAt W b (o + i * 2) [.int .i64 x, .int .i64 y] := fun k v hk => by
    rw [cell?_heap hb]
    match k with
    | 0 => cases hk; exact hc.1
    | 1 => cases hk; exact hc.2
    | k + 2 => cases hk
  have := (run_loadAt hq hC (by rw [h2]; exact Nat.le_refl _)).1 ha
  rw [h2] at this
  exact this
end Go.Proofs.YtebaiioejagfoaaGreatDoor

/- The text of a package, walked: the whole. -/
set_option linter.unusedVariables false
set_option linter.unusedSimpArgs false
namespace Go.Proofs.YtebaiioejagfoaaGreatDoor
open Go Go.Shelf Go.RowKit Go.Lib Go.Proofs
set_option maxHeartbeats 4000000
set_option maxRecDepth 100000
def pF (l : List TFile) : List (Int × Int) := l.map fun f => (f.path, f.data)
def pD (l : List TDep) : List (Int × Int) := l.map fun f => (f.name, f.least)
theorem text_start {w w2 : World} {vs : List Value} {t : Nat} (hb2 : Below (w.alloc (.cells vs.toArray t)).heap.size (w.alloc (.cells vs.toArray t)) w2) :
    ∃ W3, (Instr.alloc 81 true (.tuple #[])).run Tryz.prog w2 = .ok (.pointer (some ⟨w2.heap.size, 0, none⟩)) W3 ∧ Lib.IsBuilderF 81 5 w2.heap.size w2.heap.size [] W3 ∧ (∀ i v, vs[i]? = some v → ∀ W, Below w2.heap.size W3 W → W.cell? ⟨w.heap.size, i, none⟩ = some v) ∧
      (∀ W, Below w2.heap.size W3 W → Below w.heap.size w W) ∧ w.heap.size < w2.heap.size ∧ w2.heap.size ≤ W3.heap.size := by
  have hs : w.heap.size < w2.heap.size := by have := hb2.size; simp at this; omega
  have hb3 : Below w2.heap.size w2 (w2.alloc (.cells #[.pointer none, .slice none 0 0] 81)) := (Below.refl _ w2).alloc (Nat.le_refl _) _
  refine ⟨_, al_builder w2, Lib.IsBuilderF.of (Lib.fresh_isBuilder 81 5 w2), fun i v hi W hW => ?_, fun W hW => ?_, hs, by simp⟩
  · have h1 := cells_alloc_new w vs.toArray t i v (by simpa using hi)
    rw [Nat.zero_add] at h1
    have h2 : W.heap[w.heap.size]? = (w.alloc (.cells vs.toArray t)).heap[w.heap.size]? := by
      rw [hW.block _ hs, hb3.block _ hs, hb2.block _ (by simp)]
    rw [cell?_heap h2]
    exact h1
  · refine ⟨hW.os.trans (hb3.os.trans hb2.os), hW.tape.trans (hb3.tape.trans hb2.tape), hW.output.trans (hb3.output.trans hb2.output), by have := hW.size; have := hb3.size; omega, fun k hk => ?_⟩
    rw [hW.block k (by omega), hb3.block k (by omega), hb2.block k (by simp; omega)]
    exact heap_alloc_lt w _ k hk
theorem text_walk {p : TPkg} {w : World} {s1 s2 : Value} (hok : pkgOk p = true) (hpk : ∀ w1, w.heap.size ≤ w1.heap.size → (∀ k, k < w.heap.size → w1.heap[k]? = w.heap[k]?) → Calls Tryz.prog 39 #[pkV p s1 s2] w1 fun e w2 => e = .returned (.bool true) ∧ Below w1.heap.size w1 w2)
    (h1 : Pairs w (pF p.files) s1) (h2 : Pairs w (pD p.deps) s2) :
    Calls Tryz.prog 11 #[pkV p s1 s2] w fun e w' => e = .returned (.string ⟨(pkgTx p).toArray⟩) ∧ Below w.heap.size w w' := by
  have mixed : Tryz.prog.follows .mixedOrders = true := by kernel_rfl
  obtain ⟨ok1, ok2, ok3, ok4⟩ := pkgOk_iff.1 hok
  obtain ⟨A1, c1, rfl, m1⟩ := h1
  obtain ⟨A2, c2, rfl, m2⟩ := h2
  have hlen1 : (pF p.files).length = p.files.length := by simp [pF]
  have hlen2 : (pD p.deps).length = p.deps.length := by simp [pD]
  simp only [pkV, hlen1, hlen2] at hpk ⊢
  go_enter Tryz.func11, Tryz.ntmps11
  go_wp2_with (first
    | (go_at_call 39; refine (hpk _ (by simp) (fun k hk => heap_alloc_lt w _ k hk)).mono ?_; rintro e w2 ⟨rfl, hb2⟩; obtain ⟨W3, al, hI0, hcell, hold, hlt, hsz⟩ := text_start (vs := [.int .i64 p.name, .int .i64 p.ver, .slice A1 p.files.length c1, .slice A2 p.deps.length c2]) hb2; have k0 := hcell 0 _ rfl W3 (Below.refl _ _); have k1 := hcell 1 _ rfl W3 (Below.refl _ _); clear hpk hb2)
    | (refine wpList_al rfl 81 rfl _ al ?_)
    | (go_at_call 41; refine (named_walk p.name p.ver ok1 (by omega) _).mono ?_; rintro e w4 ⟨rfl, rfl⟩)
    | (go_at_call 40; refine (ws_k w2.heap.size w2.heap.size [] _ _ hI0 (by simp [ByteArray.size]) hsz).mono ?_; rintro e W4 ⟨rfl, hI4, hb4⟩; have k2 := hcell 2 _ rfl W4 hb4))
  have hf2 : p.files.length ≤ 2 := by
    have := ok3; unfold filesOk at this; simp only [Bool.and_eq_true, decide_eq_true_eq] at this; exact this.1
  have hd2 : p.deps.length ≤ 2 := by
    have := ok4; unfold depsOk at this; simp only [Bool.and_eq_true, decide_eq_true_eq] at this; exact this.1
  have hfa : ∀ j, j < p.files.length → fileAt p.files j := by
    have := ok3; unfold filesOk filesAt at this; simp only [Bool.and_eq_true, decide_eq_true_eq] at this; exact this.2
  have hda : ∀ j, j < p.deps.length → depAt p.name p.deps j := by
    have := ok4; unfold depsOk depsAt at this; simp only [Bool.and_eq_true, decide_eq_true_eq] at this; exact this.2
  clear hI0 k0 k1 k2 al
  obtain ⟨b, hbe⟩ : ∃ b, w2.heap.size = b := ⟨_, rfl⟩
  rw [hbe] at hI4 hb4 hcell hold hlt hsz ⊢
  go_loopw [20] (fun i wr => ∃ (j : Nat) (acc : List UInt8), j ≤ p.files.length ∧ i = .int .i64 j ∧ acc = [bt (96 + p.name), bt (48 + p.ver)] ++ (p.files.take j).flatMap fileTx ∧ Lib.IsBuilderF 81 5 b b (Lib.byteCells acc) wr ∧ Below b w4 wr) (fun i _ => p.files.length - (RowKit.intOf i).toNat)
  case atStart => exact ⟨0, _, Nat.zero_le _, rfl, rfl, by simpa [Lib.strCells, Lib.byteCells] using hI4, hb4⟩
  case round =>
    obtain ⟨j, acc, hj, rfl, hacc, hI, hb⟩ := hrel
    by_cases hjn : j < p.files.length
    · have hjn' : j < (pF p.files).length := by omega
      have hfj := hfa j hjn
      unfold fileAt at hfj
      obtain ⟨F, hF⟩ : ∃ F, nth p.files j = F := ⟨_, rfl⟩
      rw [hF] at hfj
      have hget : (pF p.files)[j]? = some (F.path, F.data) := by unfold pF; rw [List.getElem?_map, get_nth hjn, hF]; rfl
      have hne : pF p.files ≠ [] := fun e => by rw [e] at hget; cases hget
      obtain ⟨fb, fo, rfl, hfb, hcl⟩ := m1 hne
      have hold1 := (hold wr hb).block fb hfb
      have ld := pairs_ld (W := wr) (t := 88) (tabR.ti 88 _ rfl) rfl rfl hcl hold1 hget
      obtain ⟨Wb, st, t2⟩ := two_new (w := wr) (t := 88) (tabR.ti 88 _ rfl) rfl F.path F.data
      have al := al_file wr
      have hbz : b ≤ wr.heap.size := by have := hb.size; omega
      have g0 := t2.c0
      have g1 := t2.c1
      have hIb := bld_keep hI t2.keep
      have hbb := below_two hb hbz t2
      have hbz2 : b ≤ Wb.heap.size := by have := t2.size; omega
      have hal2 : acc.length ≤ 10 := by
        rw [hacc, List.length_append, flat_len fileTx 4 (fun _ => rfl)]
        have := List.length_take_le j p.files
        simp; omega
      have hws := fun (s : ByteArray) (hs : s.size = 4) => ws_k b b (Lib.byteCells acc) s Wb.drew hIb (by rw [Lib.byteCells_length, hs]; omega) hbz2
      clear m1 hcl hcell hold hI
      go_wp2_with (first
        | (refine wpList_ld rfl 88 (.tmp 22) rfl _ (.agg #[.int .i64 F.path, .int .i64 F.data]) rfl ld ?_)
        | (refine wpList_al rfl 88 rfl _ al ?_)
        | (refine wpList_st rfl 88 (.tmp 5) (.tmp 23) rfl _ (.agg #[.int .i64 F.path, .int .i64 F.data]) rfl rfl st ?_))
      go_region_with (first
        | (go_at_call 42; first | (refine (itoa_small F.path (by omega) _).mono ?_; rintro e w' ⟨rfl, rfl⟩) | (refine (itoa_small F.data (by omega) _).mono ?_; rintro e w' ⟨rfl, rfl⟩))
        | (go_at_call 40; refine (hws _ rfl).mono ?_; rintro e W6 ⟨rfl, hI6, hb6⟩))
      all_goals
        go_wp2
        go_roundw
        case rel =>
          refine ⟨j + 1, acc ++ fileTx F, by omega, by go_num, ?_, by rw [Lib.byteCells_append]; exact hI6, hbb.trans ⟨hb6.os, hb6.tape, hb6.output, hb6.size, hb6.block⟩⟩
          rw [hacc, flat_take fileTx hjn, hF, List.append_assoc]
        case measure => simp [RowKit.intOf]; omega
    · obtain rfl : j = p.files.length := by omega
      rw [List.take_length] at hacc
      have k3 := hcell 3 _ rfl wr hb
      clear m1
      go_wp2
      go_loopw [38] (fun i wr => ∃ (j : Nat) (acc : List UInt8), j ≤ p.deps.length ∧ i = .int .i64 j ∧ acc = [bt (96 + p.name), bt (48 + p.ver)] ++ p.files.flatMap fileTx ++ (p.deps.take j).flatMap depTx ∧ Lib.IsBuilderF 81 5 b b (Lib.byteCells acc) wr ∧ Below b w4 wr) (fun i _ => p.deps.length - (RowKit.intOf i).toNat)
      case atStart => exact ⟨0, acc, Nat.zero_le _, rfl, by rw [hacc]; simp, hI, hb⟩
      case round =>
        clear hI hb hacc k3
        obtain ⟨j, acc, hj, rfl, hacc, hI, hb⟩ := hrel
        by_cases hjn : j < p.deps.length
        · have hfj := hda j hjn
          unfold depAt at hfj
          obtain ⟨F, hF⟩ : ∃ F, nth p.deps j = F := ⟨_, rfl⟩
          rw [hF] at hfj
          have hget : (pD p.deps)[j]? = some (F.name, F.least) := by unfold pD; rw [List.getElem?_map, get_nth hjn, hF]; rfl
          have hne : pD p.deps ≠ [] := fun e => by rw [e] at hget; cases hget
          obtain ⟨fb, fo, rfl, hfb, hcl⟩ := m2 hne
          have hold1 := (hold _ hb).block fb hfb
          have ld := pairs_ld (W := wr) (t := 91) (tabR.ti 91 _ rfl) rfl rfl hcl hold1 hget
          obtain ⟨Wb, st, t2⟩ := two_new (w := wr) (t := 91) (tabR.ti 91 _ rfl) rfl F.name F.least
          have al := al_dep wr
          have hbz : b ≤ wr.heap.size := by have := hb.size; omega
          have g0 := t2.c0
          have g1 := t2.c1
          have hIb := bld_keep hI t2.keep
          have hbb := below_two hb hbz t2
          have hbz2 : b ≤ Wb.heap.size := by have := t2.size; omega
          have hal2 : acc.length ≤ 16 := by
            rw [hacc, List.length_append, List.length_append, flat_len fileTx 4 (fun _ => rfl), flat_len depTx 3 (fun _ => rfl)]
            have := List.length_take_le j p.deps
            simp; omega
          have hws := fun (s : ByteArray) (hs : s.size = 3) => ws_k b b (Lib.byteCells acc) s Wb hIb (by rw [Lib.byteCells_length, hs]; omega) hbz2
          clear m2 hcl hcell hold hI
          go_wp2_with (first
            | (refine wpList_ld rfl 91 (.tmp 40) rfl _ (.agg #[.int .i64 F.name, .int .i64 F.least]) rfl ld ?_)
            | (refine wpList_al rfl 91 rfl _ al ?_)
            | (refine wpList_st rfl 91 (.tmp 7) (.tmp 41) rfl _ (.agg #[.int .i64 F.name, .int .i64 F.least]) rfl rfl st ?_)
            | (go_at_call 41; refine (named_walk F.name F.least (by omega) (by omega) _).mono ?_; rintro e w' ⟨rfl, e9⟩; subst e9)
            | (go_at_call 40; refine (hws _ rfl).mono ?_; rintro e W6 ⟨rfl, hI6, hb6⟩))
          go_roundw
          case rel =>
            refine ⟨j + 1, acc ++ depTx F, by omega, by go_num, ?_, by rw [Lib.byteCells_append]; exact hI6, hbb.trans hb6⟩
            rw [hacc, flat_take depTx hjn, hF, List.append_assoc, List.append_assoc]
          case measure => simp [RowKit.intOf]; omega
        · obtain rfl : j = p.deps.length := by omega
          rw [List.take_length] at hacc
          have hbz : b ≤ wr.heap.size := by have := hb.size; omega
          have hfin := hold
          clear m2 hcell hold
          go_wp2_with (go_at_call 43; refine (Tryz.Builder_String_any_k b b acc wr hI hbz).mono ?_; rintro e W7 ⟨rfl, -, hb7, -⟩)
          go_ret
          subst hacc
          exact ⟨rfl, hfin _ (hb.trans hb7)⟩
end Go.Proofs.YtebaiioejagfoaaGreatDoor

/- The exact laws' functions over packages as S says them: arrays of packages made and marked. -/
namespace Go.Proofs.YtebaiioejagfoaaGreatDoor
open Go
set_option linter.unusedVariables false
set_option linter.unusedSimpArgs false
set_option maxHeartbeats 4000000
set_option maxRecDepth 100000
noncomputable def relF (R : List SV → List SO → SV → List SO → Prop) : List SV → List SO → Out := fun args os =>
  open Classical in if h : ∃ q : SV × List SO, R args os q.1 q.2 then some h.choose else none
theorem relF_some {R : List SV → List SO → SV → List SO → Prop} {args : List SV} {os los : List SO} {r : SV} (h : relF R args os = some (r, los)) : R args os r los := by
  unfold relF at h
  split at h
  · rename_i hq
    have := hq.choose_spec
    rw [Option.some.inj h] at this
    exact this
  · cases h
theorem relF_of {R : List SV → List SO → SV → List SO → Prop} {args : List SV} {os los : List SO} {r : SV} (h : R args os r los) : ∃ r' los', relF R args os = some (r', los') ∧ R args os r' los' := by
  have hq : ∃ q : SV × List SO, R args os q.1 q.2 := ⟨(r, los), h⟩
  refine ⟨hq.choose.1, hq.choose.2, ?_, hq.choose_spec⟩
  unfold relF
  rw [dif_pos hq]
def mkP (p : TPkg) (k : Int) : TPkg := ⟨k, k + 1, markF (k + 1 + 1) p.files.length, markD (k + 1 + 1 + 2 * p.files.length) p.deps.length⟩
def kNext (p : TPkg) (k : Int) : Int := k + 1 + 1 + 2 * p.files.length + 2 * p.deps.length
def kAt (s : List TPkg) (k0 : Int) : Nat → Int
  | 0 => k0
  | i + 1 => kNext (nth s i) (kAt s k0 i)
def mkS (s : List TPkg) (k0 : Int) : Nat → List TPkg
  | 0 => s
  | i + 1 => (mkS s k0 i).set i (mkP (nth s i) (kAt s k0 i))
theorem mkS_len (s : List TPkg) (k0 : Int) : ∀ i, (mkS s k0 i).length = s.length
  | 0 => rfl
  | i + 1 => by rw [mkS, List.length_set, mkS_len s k0 i]
theorem mkS_nth (s : List TPkg) (k0 : Int) : ∀ i j, i ≤ j → nth (mkS s k0 i) j = nth s j
  | 0, j, _ => rfl
  | i + 1, j, h => by rw [mkS, nth_set', if_neg (by omega), mkS_nth s k0 i j (by omega)]
theorem kAt_bd {s : List TPkg} (hs : lowPkgs s) {k0 : Int} (h0 : 0 ≤ k0) : ∀ i : Nat, i ≤ s.length → k0 ≤ kAt s k0 i ∧ kAt s k0 i ≤ k0 + i * 4194306
  | 0, _ => by simp [kAt]
  | i + 1, h => by
    have h1 := kAt_bd hs h0 i (by omega)
    have h2 := hs.2 i (by omega)
    unfold lowPkg at h2
    simp only [kAt, kNext]
    omega
theorem s_markPkgS00 (k : Int) : Ex (fun m => callF prg m 24 [.sl 4 [], iI k] []) (iI k) [] := by
  refine ev_is.1 ?_
  (refine U24 (nl := 0) rfl ?_; unfold B24)
  repeat' (first | ((with_reducible refine eB ?_); first | ((with_reducible refine ev_lss ?_ ?_) <;> intro h <;> try (exfalso; omega)) | ((with_reducible refine ev_add ?_ ?_); · omega) | refine ev_bd rfl ?_ | refine ev_bd0 rfl ?_) | ((with_reducible refine eL ?_); first | ((with_reducible refine ev_lenm ?_ ?_); · rfl) | refine ev_lenom rfl rfl ?_ | refine ev_lenoc rfl rfl rfl ?_ | refine ev_lenc rfl rfl ?_ | refine ev_leno rfl rfl ?_ | refine ev_slen rfl ?_ | refine ev_bd rfl ?_ | refine ev_bd0 rfl ?_) | ((with_reducible refine eI ?_); first | ((with_reducible refine ev_idx ?_ ?_ ?_); (· rfl); · omega) | (refine ev_idxo rfl rfl ?_ ?_; (· first | omega | (simp only [List.length_cons, List.length_nil, List.length_map, List.length_append]; omega))) | refine ev_bd rfl ?_ | refine ev_bd0 rfl ?_) | ((with_reducible refine eC ?_); first | fail) | ((with_reducible refine eK ?_); first | (with_reducible first | refine ev_ct ?_ | refine ev_cf ?_) | ((with_reducible refine ev_cond ?_ ?_) <;> intro h)) | ((with_reducible refine eO ?_); first | refine ev_bd rfl ?_ | (refine ev_bdB rfl ?_ ?_ <;> intro h <;> try (exfalso; simp_all; done)) | refine ev_bd0 rfl ?_) | ((with_reducible refine eD ?_); first | refine ev_bd rfl ?_ | refine ev_bd0 rfl ?_) | ((with_reducible first | refine UL24_2 ?_ | refine VL24_2 ?_); (unfold LB24_2)) | refine ev_ret rfl ?_)
  all_goals first | exact ⟨rfl, rfl⟩ | (exfalso; omega) | trace_state
theorem s_markPkgSA (k : Int) : Ex (fun m => callF prg m 24 [.osl 0, iI k] [.arr true 4 []]) (iI k) [.arr true 4 []] := by
  refine ev_is.1 ?_
  (refine U24 (nl := 1) rfl ?_; unfold B24)
  repeat' (first | ((with_reducible refine eB ?_); first | ((with_reducible refine ev_lss ?_ ?_) <;> intro h <;> try (exfalso; omega)) | ((with_reducible refine ev_add ?_ ?_); · omega) | refine ev_bd rfl ?_ | refine ev_bd0 rfl ?_) | ((with_reducible refine eL ?_); first | ((with_reducible refine ev_lenm ?_ ?_); · rfl) | refine ev_lenom rfl rfl ?_ | refine ev_lenoc rfl rfl rfl ?_ | refine ev_lenc rfl rfl ?_ | refine ev_leno rfl rfl ?_ | refine ev_slen rfl ?_ | refine ev_bd rfl ?_ | refine ev_bd0 rfl ?_) | ((with_reducible refine eI ?_); first | ((with_reducible refine ev_idx ?_ ?_ ?_); (· rfl); · omega) | (refine ev_idxo rfl rfl ?_ ?_; (· first | omega | (simp only [List.length_cons, List.length_nil, List.length_map, List.length_append]; omega))) | refine ev_bd rfl ?_ | refine ev_bd0 rfl ?_) | ((with_reducible refine eC ?_); first | fail) | ((with_reducible refine eK ?_); first | (with_reducible first | refine ev_ct ?_ | refine ev_cf ?_) | ((with_reducible refine ev_cond ?_ ?_) <;> intro h)) | ((with_reducible refine eO ?_); first | refine ev_bd rfl ?_ | (refine ev_bdB rfl ?_ ?_ <;> intro h <;> try (exfalso; simp_all; done)) | refine ev_bd0 rfl ?_) | ((with_reducible refine eD ?_); first | refine ev_bd rfl ?_ | refine ev_bd0 rfl ?_) | ((with_reducible first | refine UL24_2 ?_ | refine VL24_2 ?_); (unfold LB24_2)) | refine ev_ret rfl ?_)
  all_goals first | exact ⟨rfl, rfl⟩ | (exfalso; omega) | trace_state
def MarkR (args : List SV) (os : List SO) (r : SV) (los : List SO) : Prop :=
  (∃ (s : List TPkg) (k : Int), lowPkgs s ∧ 0 ≤ k ∧ k ≤ 100000000000000 ∧ args = [.osl 0, iI k] ∧ os = [.nst true 4 (s.map ePkg)] ∧ r = iI (kAt s k s.length) ∧ los = [.nst true 4 ((mkS s k s.length).map ePkg)]) ∨
  ∃ k : Int, args = [.osl 0, iI k] ∧ os = [.arr true 4 []] ∧ r = iI k ∧ los = [.arr true 4 []]
theorem mem_nst {w w' : World} {A L B : Nat → Prop} {g : Nat → Gh} {l l' : List SV} (hm : Mem ⟨w.heap.size, A, L, w⟩ [.nst true 4 l] g w) (hL : ∀ b, live [.nst true 4 l] g b → L b) (ho : ObjOK w' B g 0 (.nst true 4 l')) (hs : w.heap.size ≤ w'.heap.size)
    (hw : ∀ c, c < w.heap.size → ¬ (g 0).has c → w'.heap[c]? = w.heap[c]?) (so : SameOut w w') : Mem ⟨w.heap.size, A, L, w⟩ [.nst true 4 l'] g w' where
  objs j o h := by
    obtain ⟨rfl, rfl⟩ := one_get h
    exact ho
  fresh j hj := hm.fresh j hj
  inj i j oi oj b hi hj _ _ _ _ := by rw [(one_get hi).1, (one_get hj).1]
  own b hb := by
    obtain ⟨j, o, h, -, hh⟩ := hb
    obtain ⟨rfl, rfl⟩ := one_get h
    have := hm.own b ⟨0, _, rfl, rfl, hh⟩
    exact ⟨Nat.lt_of_lt_of_le this.1 hs, this.2⟩
  mine j sz l b h _ := by cases (one_get h).2
  frame b hb hn := hw b hb (fun hh => hn (hL b ⟨0, _, rfl, rfl, hh⟩))
  size := hs
  out := so
theorem cell_of {w : World} {b o : Nat} {cs : List Value} (h : CellsAt w b o cs) {k : Nat} {v : Value} (hv : cs[k]? = some v) : w.cell? ⟨b, o + k, none⟩ = some v := h k v hv
theorem mark_step {w : World} {b m : Nat} {f : Nat → Nat → Nat} {ins : List Nat} {s : List TPkg} {k : Int} {i : Nat} {vs : List Value} (hp : PkS w b m f ins s vs) (hi : i < s.length) (hb : b < w.heap.size) (hins : ∀ c, c ∈ ins → c < w.heap.size)
    (h1 : (nth s i).files.length ≤ 2000000) (h2 : (nth s i).deps.length ≤ 2000000) (hk : 0 ≤ k ∧ k ≤ 922337203685477580) :
    ∃ v0 v1 s1, w.cell? ⟨b, i * 4, none⟩ = some v0 ∧ w.frozen? ⟨b, i * 4, none⟩ = false ∧
      (w.setCell ⟨b, i * 4, none⟩ (.int .i64 k)).cell? ⟨b, i * 4 + 1, none⟩ = some v1 ∧ (w.setCell ⟨b, i * 4, none⟩ (.int .i64 k)).frozen? ⟨b, i * 4 + 1, none⟩ = false ∧
      ((w.setCell ⟨b, i * 4, none⟩ (.int .i64 k)).setCell ⟨b, i * 4 + 1, none⟩ (.int .i64 (k + 1))).cell? ⟨b, i * 4 + 2, none⟩ = some s1 ∧
        Calls Tryz.prog 65 #[s1, .int .i64 (k + 1 + 1)] ((w.setCell ⟨b, i * 4, none⟩ (.int .i64 k)).setCell ⟨b, i * 4 + 1, none⟩ (.int .i64 (k + 1))) fun e w2 => ∃ k2, e = .returned (.int .i64 k2) ∧
          ∃ s2, w2.cell? ⟨b, i * 4 + 3, none⟩ = some s2 ∧ Calls Tryz.prog 66 #[s2, .int .i64 k2] w2 fun e w3 => ∃ k3, e = .returned (.int .i64 k3) ∧
            k3 = kNext (nth s i) k ∧ (∃ vs', PkS w3 b m f ins (s.set i (mkP (nth s i) k)) vs') ∧ (∀ c, c < w.heap.size → c ≠ b → c ∉ ins → w3.heap[c]? = w.heap[c]?) ∧ w.heap.size ≤ w3.heap.size ∧ SameOut w w3 := by
  obtain ⟨p, hpe⟩ : ∃ p, p = nth s i := ⟨_, rfl⟩
  obtain ⟨s1, s2, hv, i1, i2⟩ := hp.el i hi
  rw [← hpe] at h1 h2 hv i1 i2 ⊢
  have him : i * 4 + 4 ≤ m * 4 := by have := hp.cap; omega
  obtain ⟨W1, hW1⟩ : ∃ W1, W1 = w.setCell ⟨b, i * 4, none⟩ (.int .i64 k) := ⟨_, rfl⟩
  obtain ⟨W2, hW2⟩ : ∃ W2, W2 = W1.setCell ⟨b, i * 4 + 1, none⟩ (.int .i64 (k + 1)) := ⟨_, rfl⟩
  rw [← hW1, ← hW2]
  have e1 : W1 = w.setCells b (i * 4) [.int .i64 k] := hW1
  have e2 : W2 = w.setCells b (i * 4 + 0) [.int .i64 k, .int .i64 (k + 1)] := by rw [hW2, hW1]; rfl
  have R1 : Room W1 b (m * 4) 4 := by rw [e1]; exact room_setCells hp.room _ _
  have R2 : Room W2 b (m * 4) 4 := by rw [e2]; exact room_setCells hp.room _ _
  have C2 : CellsAt W2 b 0 (flatV (vs.set i (pkV ⟨k, k + 1, p.files, p.deps⟩ s1 s2))) := by
    rw [e2]; exact set_cells hp.room hp.cells hp.ok hv (by rw [hp.len]; exact hp.cap) rfl (by simp)
  have ivs : i < vs.length := by rw [hp.len]; exact hi
  have hok : ∀ v : Value, v ∈ vs.set i (pkV ⟨k, k + 1, p.files, p.deps⟩ s1 s2) → ElOK 4 v := fun v hv => by
    rcases List.mem_or_eq_of_mem_set hv with h | rfl
    · exact hp.ok v h
    · exact pk_one i1.one i2.one
  have hE := flatV_elem hok (List.getElem?_set_self ivs) C2
  rw [Nat.zero_add] at hE
  have O2 : ∀ c, c ≠ b → W2.heap[c]? = w.heap[c]? := fun c hc => by rw [e2]; exact heap_setCells_ne b c (fun e => hc e.symm) _ _ _
  have Z2 : W2.heap.size = w.heap.size := by rw [e2]; exact size_setCells _ _ _ _
  have S2 : SameOut w W2 := by rw [e2]; exact out_setCells _ _ _ _
  have hne1 : p.files ≠ [] → Ne s i 2 := fun h => ⟨hi, .inl ⟨rfl, by rw [← hpe]; exact h⟩⟩
  have hne2 : p.deps ≠ [] → Ne s i 3 := fun h => ⟨hi, .inr ⟨rfl, by rw [← hpe]; exact h⟩⟩
  have nb : ∀ c, c ∈ ins → c ≠ b := fun c hc e => hp.out (e ▸ hc)
  have I1 : In W2 (f i 2) (p.files.map eFile) s1 := i1.heap fun h => O2 _ (nb _ (hp.mem _ _ (hne1 (ne_files.1 h))))
  have I2 : In W2 (f i 3) (p.deps.map eDep) s2 := i2.heap fun h => O2 _ (nb _ (hp.mem _ _ (hne2 (ne_deps.1 h))))
  have q0 := room_cell hp.room (o := i * 4) (by omega)
  have q1 := room_cell R1 (o := i * 4 + 1) (by omega)
  obtain ⟨v0, hv0⟩ := Option.isSome_iff_exists.1 q0.1
  obtain ⟨v1, hv1⟩ := Option.isSome_iff_exists.1 q1.1
  refine ⟨v0, v1, s1, hv0, q0.2, hv1, q1.2, cell_of hE (k := 2) rfl, ?_⟩
  have m1 := mark_in (k := k + 1 + 1) (two_files p.files) (two_files (markF (k + 1 + 1) p.files.length)) (by simp [markF_len]) (by
    have := s_markFileS p.files (k + 1 + 1) (by omega) h1
    exact this) (fun h => by
    have h9 : p.files = [] := List.map_eq_nil_iff.1 h
    rw [h9]
    have := s_markFileS0 (k + 1 + 1)
    simpa using this) I1 (fun h => by rw [Z2]; exact hins _ (hp.mem _ _ (hne1 (ne_files.1 h))))
  refine m1.mono ?_
  rintro e w2 ⟨rfl, J1, U2, Y2, T2⟩
  have b2 : w2.heap[b]? = W2.heap[b]? := U2 b (by rw [Z2]; exact hb) fun h e => nb _ (hp.mem _ _ (hne1 (ne_files.1 h))) e.symm
  refine ⟨_, rfl, s2, by rw [cell?_heap b2]; exact cell_of hE (k := 3) rfl, ?_⟩
  have d32 : (p.files.map eFile) ≠ [] → (p.deps.map eDep) ≠ [] → f i 3 ≠ f i 2 := fun h h' e => by
    have := (hp.inj _ _ _ _ (hne2 (ne_deps.1 h')) (hne1 (ne_files.1 h)) e).2
    omega
  have I2' : In w2 (f i 3) (p.deps.map eDep) s2 := I2.heap fun h => U2 _ (by rw [Z2]; exact hins _ (hp.mem _ _ (hne2 (ne_deps.1 h)))) fun h' => d32 h' h
  have m2 := mark_in (k := k + 1 + 1 + 2 * p.files.length) (two_deps p.deps) (two_deps (markD (k + 1 + 1 + 2 * p.files.length) p.deps.length)) (by simp [markD_len]) (by
    have := s_markDepS p.deps (k + 1 + 1 + 2 * p.files.length) (by omega) h2
    exact this) (fun h => by
    have h9 : p.deps = [] := List.map_eq_nil_iff.1 h
    rw [h9]
    have := s_markDepS0 (k + 1 + 1 + 2 * p.files.length)
    simpa using this) I2' (fun h => by have := hins _ (hp.mem _ _ (hne2 (ne_deps.1 h))); omega)
  refine m2.mono ?_
  rintro e w3 ⟨rfl, J2, U3, Y3, T3⟩
  have b3 : w3.heap[b]? = W2.heap[b]? := (U3 b (by omega) fun h e => nb _ (hp.mem _ _ (hne2 (ne_deps.1 h))) e.symm).trans b2
  have oth : ∀ c, c < w.heap.size → c ≠ b → (p.files ≠ [] → c ≠ f i 2) → (p.deps ≠ [] → c ≠ f i 3) → w3.heap[c]? = w.heap[c]? := fun c hc h3 h4 h5 =>
    ((U3 c (by omega) fun h => h5 (ne_deps.1 h)).trans (U2 c (by omega) fun h => h4 (ne_files.1 h))).trans (O2 c h3)
  have lenF : ∀ {p : TPkg} {k : Int}, (mkP p k).files ≠ [] → p.files ≠ [] := fun {p k} h e => h (by simp [mkP, e, markF])
  have lenD : ∀ {p : TPkg} {k : Int}, (mkP p k).deps ≠ [] → p.deps ≠ [] := fun {p k} h e => h (by simp [mkP, e, markD])
  refine ⟨_, rfl, rfl, ⟨_, hp.upd (f' := f) (ins' := ins) (p := mkP p k) (s1 := s1) (s2 := s2) hi (fun _ _ _ => rfl) (C2.heap b3) (R2.same b3) ?_ ?_ J2 hp.out (fun _ h => h) (fun h => hp.mem _ _ (hne1 (lenF h))) (fun h => hp.mem _ _ (hne2 (lenD h))) ?_ ?_⟩, ?_, by omega, S2.trans (T2.trans T3)⟩
  · intro j c hj hn
    have hc := hp.mem _ _ hn
    exact oth _ (hins _ hc) (nb _ hc) (fun h e => hj (hp.inj _ _ _ _ hn (hne1 h) e).1) (fun h e => hj (hp.inj _ _ _ _ hn (hne2 h) e).1)
  · exact J1.heap fun h => U3 _ (by have := hins _ (hp.mem _ _ (hne1 (lenF (k := k) (ne_files.1 h)))); omega) fun h' e => d32 (ne_files.2 (lenF (k := k) (ne_files.1 h))) h' e.symm
  · intro j c hj hn
    exact ⟨fun h e => hj (hp.inj _ _ _ _ (hne1 (lenF h)) hn e).1.symm, fun h e => hj (hp.inj _ _ _ _ (hne2 (lenD h)) hn e).1.symm⟩
  · intro h h' e
    exact d32 (ne_files.2 (lenF h)) (ne_deps.2 (lenD h')) e.symm
  · intro c hc h3 h4
    exact oth c hc h3 (fun h e => h4 (e ▸ hp.mem _ _ (hne1 h))) (fun h e => h4 (e ▸ hp.mem _ _ (hne2 h)))
theorem mark_ok : KOK1 Tryz.prog 24 (relF MarkR) := by
  intro args los los' r h
  refine ⟨⟨_, _, Tryz.func24, by kernel_rfl, rfl⟩, ?_⟩
  rcases relF_some h with ⟨s, k, hs, hk0, hk1, rfl, rfl, rfl, rfl⟩ | ⟨k, rfl, rfl, rfl, rfl⟩
  rotate_left
  · obtain ⟨n0, hn0⟩ := s_markPkgSA k
    exact (callF_ok prgR n0 _ _ _ _ _ (hn0 n0 (Nat.le_refl _))).2
  intro A L g vals w hL hm ha
  obtain ⟨v0, vals, rfl, h0, ha⟩ := ha.uncons
  obtain ⟨v1, vals, rfl, h1, ha⟩ := ha.uncons
  obtain rfl : vals = [] := by have := ha.1; cases vals <;> simp at this ⊢
  obtain rfl := iI_rep h1
  by_cases hse : s = []
  · subst hse
    obtain ⟨a, c, rfl⟩ : ∃ a c, v0 = .slice a 0 c := by
      rcases hm.objs 0 _ rfl with ⟨-, hn⟩ | ⟨b, m, vs, ins, e1, -⟩
      · cases h0 with
        | osl0 => exact ⟨_, _, rfl⟩
        | osl hg => rw [hn] at hg; cases hg
        | osln hg => rw [hn] at hg; cases hg
      · cases h0 with
        | osl0 => exact ⟨_, _, rfl⟩
        | osl hg => rw [e1] at hg; cases hg
        | osln hg => rw [e1] at hg; cases hg; exact ⟨_, _, rfl⟩
    obtain ⟨n0, hn0⟩ := s_markPkgS00 k
    obtain ⟨-, hk⟩ := callF_ok prgR n0 _ _ _ _ _ (hn0 n0 (Nat.le_refl _))
    refine (hk (fun _ => True) (fun _ => False) G0 [.slice a 0 c, .int .i64 k] w (fun b hb => (live_nil hb).elim) (mem_nil w _ _) (RepL.cons .sl0 (RepL.cons (.v rfl) RepL.nil))).mono ?_
    rintro e w' ⟨v, g', rfl, m, -, hr, -⟩
    obtain rfl := iI_rep hr
    have hw : ∀ c, c < w.heap.size → w'.heap[c]? = w.heap[c]? := fun c hc => m.frame c hc id
    refine ⟨_, g, rfl, mem_nst (B := Bk ⟨w.heap.size, A, L, w⟩ [.nst true 4 []] g w) hm hL ?_ m.size (fun c hc _ => hw c hc) m.out, fun _ _ _ => rfl, .v rfl, Nat.le_refl _⟩
    exact (hm.objs 0 _ rfl).mono (fun b h => h) (fun b h => hw b h.1) (fun _ _ => rfl) (fun b _ hb => hw b (hm.own b ⟨0, _, rfl, rfl, hb⟩).1)
  · obtain ⟨b, m, f, ins, vs, hg, hp⟩ := PkS.of (hm.objs 0 _ rfl) hse
    obtain rfl : v0 = .slice (some ⟨b, 0, none⟩) s.length m := by
      cases h0 with
      | osl0 h9 => rw [hg] at h9; cases h9
      | osl h9 => rw [hg] at h9; cases h9
      | osln h9 => rw [hg] at h9; cases h9; rfl
    have own : ∀ c, (b = c ∨ c ∈ ins) → c < w.heap.size := fun c hc => (hm.own c ⟨0, _, rfl, rfl, by rw [hg]; exact hc⟩).1
    refine (mark_walk (I := fun i q wr => i ≤ s.length ∧ q = kAt s k i ∧ (∃ vs, PkS wr b m f ins (mkS s k i) vs) ∧ (∀ c, c < w.heap.size → c ≠ b → c ∉ ins → wr.heap[c]? = w.heap[c]?) ∧ w.heap.size ≤ wr.heap.size ∧ SameOut w wr) hs.len
      ⟨Nat.zero_le _, rfl, ⟨vs, hp⟩, fun _ _ _ _ => rfl, Nat.le_refl _, SameOut.refl _⟩ ?_ ?_).mono ?_
    · rintro i q wr ⟨hi, rfl, -⟩
      have := kAt_bd hs hk0 i hi
      have := hs.1
      omega
    · rintro i q wr hi ⟨-, rfl, ⟨vs', hp'⟩, hw, hz, so⟩
      have hbd := kAt_bd hs hk0 i (by omega)
      have hl := hs.1
      have hlow := hs.2 i hi
      unfold lowPkg at hlow
      have hni : nth (mkS s k i) i = nth s i := mkS_nth s k i i (Nat.le_refl _)
      have hst := mark_step hp' (i := i) (k := kAt s k i) (by rw [mkS_len]; exact hi) (by have := own b (.inl rfl); omega) (fun c hc => by have := own c (.inr hc); omega) (by rw [hni]; omega) (by rw [hni]; omega) (by omega)
      rw [hni] at hst
      obtain ⟨v0, v1, s1, a1, a2, a3, a4, a5, a6⟩ := hst
      refine ⟨v0, v1, s1, a1, a2, a3, a4, a5, a6.mono ?_⟩
      rintro e w2 ⟨k2, rfl, s2, c1, c2⟩
      refine ⟨k2, rfl, s2, c1, c2.mono ?_⟩
      rintro e w3 ⟨k3, rfl, rfl, d2, d3, d4, d5⟩
      exact ⟨_, rfl, by omega, rfl, d2, fun c hc h3 h4 => (d3 c (by omega) h3 h4).trans (hw c hc h3 h4), by omega, so.trans d5⟩
    · rintro e w' ⟨k', rfl, -, rfl, ⟨vs', hp'⟩, hw, hz, so⟩
      refine ⟨_, g, rfl, mem_nst (B := fun _ => True) hm hL (hp'.obj (by rw [mkS_len]; exact hg) true _) hz (fun c hc hn => hw c hc (fun e => hn (by rw [hg]; exact .inl e.symm)) (fun e => hn (by rw [hg]; exact .inr e))) so, fun _ _ _ => rfl, .v rfl, Nat.le_refl _⟩
end Go.Proofs.YtebaiioejagfoaaGreatDoor

/- The exact laws' functions over packages as S says them: an array of packages, made. -/
namespace Go.Proofs.YtebaiioejagfoaaGreatDoor
open Go
set_option linter.unusedVariables false
set_option linter.unusedSimpArgs false
set_option maxHeartbeats 4000000
set_option maxRecDepth 100000
def dnS (s : List TPkg) : Nat → List TPkg
  | 0 => List.replicate s.length zPkg
  | i + 1 => (dnS s i).set i (nth s i)
theorem dnS_len (s : List TPkg) : ∀ i, (dnS s i).length = s.length
  | 0 => by simp [dnS]
  | i + 1 => by rw [dnS, List.length_set, dnS_len s i]
theorem dnS_nth (s : List TPkg) : ∀ i j, j < i → i ≤ s.length → nth (dnS s i) j = nth s j
  | 0, j, h, _ => by omega
  | i + 1, j, h, hi => by
    rw [dnS, nth_set']
    split
    · rename_i e; rw [e.1]
    · rename_i e
      rw [dnS_len] at e
      exact dnS_nth s i j (by omega) (by omega)
theorem dnS_all (s : List TPkg) : dnS s s.length = s := eq_of_nth (dnS_len s _) fun j hj => by rw [dnS_len] at hj; exact dnS_nth s _ j hj (Nat.le_refl _)
theorem nth_rep {α : Type} [Inhabited α] {n i : Nat} {a : α} (h : i < n) : nth (List.replicate n a) i = a := by
  unfold nth
  rw [List.getD_eq_getElem?_getD, List.getElem?_replicate, if_pos h]; rfl
theorem pks_zero {w : World} {B : Nat → Prop} {n b m : Nat} {vs : List Value} (hr : RepL w B G0 ((List.replicate n zPkg).map ePkg) vs) (hc : CellsAt w b 0 (flatV vs)) (hm : n ≤ m) (hR : Room w b (m * 4) 4) : PkS w b m (fun _ _ => 0) [] (List.replicate n zPkg) vs := by
  have hz : ∀ i c, ¬ Ne (List.replicate n zPkg) i c := fun i c h => by
    obtain ⟨h1, h2⟩ := h
    rw [List.length_replicate] at h1
    rw [nth_rep h1] at h2
    simp [zPkg] at h2
  refine ⟨by rw [List.length_replicate]; exact hm, by rw [← hr.1, List.length_map], fun i hi => ?_, hc, hR, by simp, fun i c h => absurd h (hz i c), fun i c _ _ h => absurd h (hz i c)⟩
  obtain ⟨v, hv, h⟩ := hr.get (get_map (e := ePkg) hi)
  obtain ⟨v0, v1, v2, v3, rfl, r0, r1, r2, r3⟩ := ag4 h
  obtain rfl := iI_rep r0
  obtain rfl := iI_rep r1
  rw [List.length_replicate] at hi
  rw [nth_rep hi] at r2 r3 hv ⊢
  exact ⟨v2, v3, hv, .inl ⟨rfl, sl_nil r2 rfl⟩, .inl ⟨rfl, sl_nil r3 rfl⟩⟩
theorem arr_nst0 {fr : Fr} {g : Nat → Gh} {w : World} {B : Nat → Prop} {v : Value} (hm : Mem fr [.arr false 4 []] g w) (hv : RepV w B g (.osl 0) v) : ∃ g', Mem fr [.nst false 4 []] g' w ∧ RepV w (Bk fr [.nst false 4 []] g' w) g' (.osl 0) v := by
  have mk : ∀ x : Gh, (∀ b, x.has b → (g 0).has b) → ObjOK w (Bk fr [.nst false 4 []] (gOne x) w) (gOne x) 0 (.nst false 4 []) → Mem fr [.nst false 4 []] (gOne x) w := fun x hx ho =>
    { objs := fun j o h => by obtain ⟨rfl, rfl⟩ := one_get h; exact ho
      fresh := fun j hj => if_neg (by simp at hj; omega)
      inj := fun i j oi oj b hi hj _ _ _ _ => by rw [(one_get hi).1, (one_get hj).1]
      own := fun b hb => by
        obtain ⟨j, o, h, -, hh⟩ := hb
        obtain ⟨rfl, rfl⟩ := one_get h
        exact hm.own b ⟨0, _, rfl, rfl, hx b hh⟩
      mine := fun j sz l b h _ => by cases (one_get h).2
      frame := hm.frame
      size := hm.size
      out := hm.out }
  rcases hm.objs 0 _ rfl with ⟨-, hn⟩ | ⟨b, cap, vs, e1, e2, e3, e4, e5, e6⟩
  · refine ⟨gOne .nil, mk .nil (fun b h => h.elim) (.inl ⟨rfl, rfl⟩), ?_⟩
    cases hv with
    | osl0 => exact .osl0 rfl
    | osl h9 => rw [hn] at h9; cases h9
    | osln h9 => rw [hn] at h9; cases h9
  · refine ⟨gOne (.nst b 4 0 cap []), mk _ (fun c h => ?_) (.inr ⟨b, cap, [], [], rfl, Nat.zero_le _, RepL.nil, (fun v hv => absurd hv List.not_mem_nil), (fun k v h => by simp [flatV] at h), e6, List.not_mem_nil, (fun i c => (i + c) * (i + c) + c), (fun i c x v sz m h => by simp at h), (fun i c i' c' h => pair_inj h)⟩), ?_⟩
    · rw [e1]
      rcases h with h | h
      · exact h
      · cases h
    · cases hv with
      | osl0 h9 => rw [e1] at h9; cases h9
      | osl h9 => rw [e1] at h9; cases h9; exact .osln rfl
      | osln h9 => rw [e1] at h9; cases h9
def ToR (args : List SV) (os : List SO) (r : SV) (los : List SO) : Prop :=
  ∃ s : List TPkg, lowPkgs s ∧ args = [.sl 4 (s.map ePkg)] ∧ os = [] ∧ r = .osl 0 ∧ los = [.nst false 4 (s.map ePkg)]
theorem to_make (n : Nat) (hn : n ≤ 2000000) : makeS tab [] 23 (iI n) (iI n) = some (.osl 0, [.arr false 4 ((List.replicate n zPkg).map ePkg)]) := by
  have hu : tab.und 23 = some (.slice 35) := rfl
  obtain ⟨q, hq, h1, h2, h3⟩ : ∃ q, tab.ti 35 = some q ∧ q.size = 4 ∧ q.bytes = 64 ∧ pack q.agg (zeroP q.zero) = some (ePkg zPkg) := ⟨_, rfl, rfl, rfl, rfl⟩
  simp only [makeS, hu, hq, h1, h2, h3]
  rw [if_pos ⟨by omega, by omega, by omega, by omega⟩, List.map_replicate]
  rfl
theorem to_ok : KOK1 Tryz.prog 18 (relF ToR) := by
  intro args los los' r h
  refine ⟨⟨_, _, Tryz.func18, by kernel_rfl, rfl⟩, ?_⟩
  obtain ⟨s, hs, rfl, rfl, rfl, rfl⟩ := relF_some h
  intro A L g vals w hL hm ha
  obtain ⟨v0, vals, rfl, h0, ha⟩ := ha.uncons
  obtain rfl : vals = [] := by have := ha.1; cases vals <;> simp at this ⊢
  by_cases hse : s = []
  · subst hse
    obtain ⟨n0, hn0⟩ := s_toPkgS [] hs
    obtain ⟨-, hk⟩ := callF_ok prgR n0 _ _ _ _ _ (hn0 n0 (Nat.le_refl _))
    refine (hk A L g [v0] w hL hm (RepL.cons h0 RepL.nil)).mono ?_
    rintro e w' ⟨v, g', rfl, m, -, hr, -⟩
    obtain ⟨g2, m2, r2⟩ := arr_nst0 m hr
    exact ⟨v, g2, rfl, m2, fun j hj => absurd hj (Nat.not_lt_zero _), r2, Nat.zero_le _⟩
  have hn0 : 0 < s.length := List.length_pos_iff.2 hse
  obtain ⟨ab, ao, c, vsA, rfl, hA, hE, hC, hB⟩ : ∃ ab ao c vsA, v0 = .slice (some ⟨ab, ao, none⟩) s.length c ∧ RepL w (Bk ⟨w.heap.size, A, L, w⟩ [] g w) G0 (s.map ePkg) vsA ∧ (∀ v : Value, v ∈ vsA → ElOK 4 v) ∧ CellsAt w ab ao (flatV vsA) ∧ Bk ⟨w.heap.size, A, L, w⟩ [] g w ab := by
    obtain ⟨l, hl⟩ : ∃ l, l = s.map ePkg := ⟨_, rfl⟩
    have hll : l.length = s.length := by rw [hl, List.length_map]
    rw [← hl] at h0 ⊢
    cases h0 with
    | sl0 => exact absurd (List.map_eq_nil_iff.1 hl.symm) hse
    | sl a1 a2 a3 a4 a5 a6 => exact ⟨_, _, _, _, by rw [hll], ⟨a1, a2⟩, a3, a4, a5⟩
  obtain ⟨vm, w1, hmk, g1, m1, -, r1⟩ := make_rep tabR (mem_nil w (fun _ => True) (fun _ => False)) (t := 23) (n := iI s.length) (c := iI s.length) (.v rfl) (.v rfl) (to_make s.length hs.len)
  obtain ⟨b, m, vs, e1, e2, e3, e4, e5, e6⟩ : ∃ b cap vs, g1 0 = .blk b 4 s.length cap ∧ s.length ≤ cap ∧ RepL w1 (Bk ⟨w.heap.size, fun _ => True, fun _ => False, w⟩ [.arr false 4 ((List.replicate s.length zPkg).map ePkg)] g1 w1) G0 ((List.replicate s.length zPkg).map ePkg) vs ∧ (∀ v : Value, v ∈ vs → ElOK 4 v) ∧ CellsAt w1 b 0 (flatV vs) ∧ Room w1 b (cap * 4) 4 := by
    rcases m1.objs 0 _ rfl with ⟨h9, -⟩ | ⟨b, cap, vs, e1, e2, e3, e4, e5, e6⟩
    · have := congrArg List.length h9
      simp at this
      exact absurd this hse
    · rw [List.length_map, List.length_replicate] at e1 e2
      exact ⟨b, cap, vs, e1, e2, e3, e4, e5, e6⟩
  obtain rfl : vm = .slice (some ⟨b, 0, none⟩) s.length m := by
    cases r1 with
    | osl0 h9 => rw [e1] at h9; cases h9
    | osl h9 => rw [e1] at h9; cases h9; rfl
    | osln h9 => rw [e1] at h9; cases h9
  have hbN : w.heap.size ≤ b := m1.mine 0 _ _ b rfl (by rw [e1]; rfl)
  have hbz : b < w1.heap.size := (m1.own b ⟨0, _, rfl, rfl, by rw [e1]; rfl⟩).1
  have hlen := hs.len
  have hNB : ∀ c, Bk ⟨w.heap.size, A, L, w⟩ [] g w c → c < w.heap.size := fun c hc => hc.1
  refine (topk_walk (I := fun i wr => i ≤ s.length ∧ (∃ f ins vs, PkS wr b m f ins (dnS s i) vs ∧ (∀ c, c ∈ ins → w.heap.size ≤ c ∧ c < wr.heap.size)) ∧ b < wr.heap.size ∧ (∀ c, c < w.heap.size → wr.heap[c]? = w.heap[c]?) ∧ w.heap.size ≤ wr.heap.size ∧ SameOut w wr) hlen hmk
    ⟨Nat.zero_le _, ⟨_, _, _, pks_zero e3 e5 e2 e6, fun c hc => absurd hc List.not_mem_nil⟩, hbz, fun c hc => m1.frame c hc id, m1.size, m1.out⟩ ?_).mono ?_
  · rintro i wr hi ⟨-, ⟨f, ins, vs', hp, hin⟩, hbr, hw, hz, so⟩
    obtain ⟨pv, hpv, hpr⟩ := hA.get (get_map (e := ePkg) hi)
    have hcell := flatV_elem hE hpv hC
    have hlow := hs.2 i hi
    unfold lowPkg at hlow
    obtain ⟨p, hpe⟩ : ∃ p, p = nth s i := ⟨_, rfl⟩
    rw [← hpe] at hpr hlow
    have hpr' : RepV wr (Bk ⟨w.heap.size, A, L, w⟩ [] g w) G0 (ePkg p) pv := hpr.mono (fun _ h => h) (fun c hc => hw c (hNB c hc)) G0 (fun _ h => h.elim rfl)
    refine ⟨pv, ?_, ?_⟩
    · obtain ⟨v0, v1, v2, v3, rfl, -⟩ := ag4 hpr
      exact (run_loadAt (tabR.ti 101 _ rfl) (hcell.heap (hw _ (hNB _ hB))) (Nat.le_refl _)).1 rfl
    · refine (topk_in (p := p) (by omega) (by omega) hpr' (fun c hc => by have := hNB c hc; omega)).mono ?_
      rintro e w2 ⟨β1, β2, s1, s2, rfl, i1, i2, n1, n2, n3, u2, z2, t2⟩
      have R2 : Room w2 b (m * 4) 4 := hp.room.same (u2 b hbr)
      have C2 : CellsAt w2 b 0 (flatV vs') := hp.cells.heap (u2 b hbr)
      have hid : i < (dnS s i).length := by rw [dnS_len]; exact hi
      have hcap := hp.cap
      rw [dnS_len] at hcap
      obtain ⟨t1, t2', hvi, -, -⟩ := hp.el i hid
      have hE4 : ElOK 4 (pkV p s1 s2) := pk_one i1.one i2.one
      have O3 : ∀ c, c ≠ b → (w2.setCells b (i * 4) (pkV p s1 s2).cells.toList).heap[c]? = w2.heap[c]? := fun c hc => heap_setCells_ne b c (fun e => hc e.symm) _ _ _
      have Z3 : (w2.setCells b (i * 4) (pkV p s1 s2).cells.toList).heap.size = w2.heap.size := size_setCells _ _ _ _
      have nbi : ∀ c, c ∈ ins → c ≠ b := fun c hc e => hp.out (e ▸ hc)
      refine ⟨_, rfl, w2.setCells b (i * 4) (pkV p s1 s2).cells.toList, ?_, by omega, ?_, by omega, fun c hc => ?_, by omega, (so.trans t2).trans (out_setCells _ _ _ _)⟩
      · exact run_storeVar (tabR.ti 35 _ rfl) R2 hE4.1 (by show i * 4 + 4 ≤ m * 4; omega) hE4.2
      · refine ⟨fun j c => if j = i then (if c = 2 then β1 else β2) else f j c, (if p.files = [] then [] else [β1]) ++ (if p.deps = [] then [] else [β2]) ++ ins, vs'.set i (pkV p s1 s2), ?_, ?_⟩
        · rw [dnS, ← hpe]
          refine hp.upd hid (fun j c hj => if_neg hj) ?_ (room_setCells R2 _ _) ?_ ?_ ?_ ?_ (fun c hc => by simp [hc]) (fun h => by simp [h]) (fun h => by simp [h]) ?_ ?_
          · exact set_cells (off := 0) R2 C2 hp.ok hvi (by rw [hp.len, dnS_len]; exact hcap) rfl (by have := hE4.1; simp [this])
          · intro j c hj hn
            have hc := hp.mem _ _ hn
            exact (O3 _ (nbi _ hc)).trans (u2 _ (hin _ hc).2)
          · show In _ (if i = i then (if 2 = 2 then β1 else β2) else f i 2) _ _
            rw [if_pos rfl, if_pos rfl]
            exact i1.heap fun h => O3 _ (by have := (n1 (ne_files.1 h)).1; omega)
          · show In _ (if i = i then (if 3 = 2 then β1 else β2) else f i 3) _ _
            rw [if_pos rfl, if_neg (by decide)]
            exact i2.heap fun h => O3 _ (by have := (n2 (ne_deps.1 h)).1; omega)
          · intro h
            simp only [List.mem_append] at h
            rcases h with (h | h) | h
            · split at h
              · cases h
              · rename_i q; have := (n1 q).1; simp at h; omega
            · split at h
              · cases h
              · rename_i q; have := (n2 q).1; simp at h; omega
            · exact hp.out h
          · intro j c hj hn
            have := (hin _ (hp.mem _ _ hn)).2
            refine ⟨fun h => ?_, fun h => ?_⟩
            · have := (n1 h).1
              simp only [if_true]; omega
            · have := (n2 h).1
              simp only [if_true]
              rw [if_neg (by decide)]; omega
          · intro h h'
            simp only [if_true]
            rw [if_neg (by decide)]
            exact n3 h h'
        · intro c hc
          rw [Z3]
          simp only [List.mem_append] at hc
          rcases hc with (h | h) | h
          · split at h
            · cases h
            · rename_i q; have := n1 q; simp at h; omega
          · split at h
            · cases h
            · rename_i q; have := n2 q; simp at h; omega
          · have := hin _ h; omega
      · rw [O3 c (by omega), u2 c (by omega)]; exact hw c hc
  · rintro e w' ⟨rfl, -, ⟨f, ins, vs', hp, hin⟩, hbr, hw, hz, so⟩
    rw [dnS_all] at hp
    have hg : gOne (.nst b 4 s.length m ins) 0 = .nst b 4 s.length m ins := rfl
    refine ⟨_, gOne (.nst b 4 s.length m ins), rfl, ?_, fun j hj => absurd hj (Nat.not_lt_zero _), .osln hg, Nat.zero_le _⟩
    exact
      { objs := fun j o h => by obtain ⟨rfl, rfl⟩ := one_get h; exact hp.obj hg false _
        fresh := fun j hj => if_neg (by simp at hj; omega)
        inj := fun i j oi oj b hi hj _ _ _ _ => by rw [(one_get hi).1, (one_get hj).1]
        own := fun c hc => by
          obtain ⟨j, o, h, -, hh⟩ := hc
          obtain ⟨rfl, rfl⟩ := one_get h
          rcases hh with rfl | hh
          · exact ⟨hbr, fun h => absurd h (by dsimp only; omega)⟩
          · have := hin _ hh
            exact ⟨this.2, fun h => absurd h (by dsimp only; omega)⟩
        mine := fun j sz l b h _ => by cases (one_get h).2
        frame := fun c hc _ => hw c hc
        size := hz
        out := so }
end Go.Proofs.YtebaiioejagfoaaGreatDoor

/- impl.PkgText as S says it. -/
set_option linter.unusedVariables false
set_option linter.unusedSimpArgs false
namespace Go.Proofs.YtebaiioejagfoaaGreatDoor
open Go Go.Shelf Go.RowKit Go.Lib Go.Proofs
set_option maxHeartbeats 4000000
set_option maxRecDepth 100000
theorem text_none {p : TPkg} {w : World} {s1 s2 : Value} (hpk : ∀ w1, w.heap.size ≤ w1.heap.size → (∀ k, k < w.heap.size → w1.heap[k]? = w.heap[k]?) → Calls Tryz.prog 39 #[pkV p s1 s2] w1 fun e w2 => e = .returned (.bool false) ∧ Below w1.heap.size w1 w2) :
    Calls Tryz.prog 11 #[pkV p s1 s2] w fun e w' => e = .returned (.string ⟨#[]⟩) ∧ Below w.heap.size w w' := by
  have mixed : Tryz.prog.follows .mixedOrders = true := by kernel_rfl
  simp only [pkV] at hpk ⊢
  go_enter Tryz.func11, Tryz.ntmps11
  go_wp2_with (go_at_call 39; refine (hpk _ (by simp) (fun k hk => heap_alloc_lt w _ k hk)).mono ?_; rintro e w2 ⟨rfl, hb2⟩)
  go_ret
  refine ⟨rfl, hb2.os, hb2.tape, hb2.output, by have := hb2.size; simp at this; omega, fun k hk => ?_⟩
  rw [hb2.block k (by simp; omega)]
  exact heap_alloc_lt w _ k hk
def TextR (args : List SV) (os : List SO) (r : SV) (los : List SO) : Prop :=
  ∃ p : TPkg, p.files.length ≤ 2000000 ∧ p.deps.length ≤ 2000000 ∧ args = [ePkg p] ∧ os = [] ∧ r = sS (pkgText p) ∧ los = []
theorem mem_below {w w' : World} {A L : Nat → Prop} {g : Nat → Gh} (hm : Mem ⟨w.heap.size, A, L, w⟩ [] g w) (h : Below w.heap.size w w') : Mem ⟨w.heap.size, A, L, w⟩ [] g w' where
  objs j o hj := by simp at hj
  fresh := hm.fresh
  inj i j oi oj b hi := by simp at hi
  own b hb := (live_nil hb).elim
  mine j sz l b hj := by simp at hj
  frame b hb _ := h.block b hb
  size := h.size
  out := ⟨h.os, h.tape, h.output⟩
theorem text_ok : KOK1 Tryz.prog 11 (relF TextR) := by
  intro args los los' r h
  refine ⟨⟨_, _, Tryz.func11, by kernel_rfl, rfl⟩, ?_⟩
  obtain ⟨p, hf, hd, rfl, rfl, rfl, rfl⟩ := relF_some h
  intro A L g vals w hL hm ha
  obtain ⟨v0, vals, rfl, h0, ha⟩ := ha.uncons
  obtain rfl : vals = [] := by have := ha.1; cases vals <;> simp at this ⊢
  have hall := h0
  obtain ⟨u0, u1, s1, s2, rfl, r0, r1, r2, r3⟩ := ag4 h0
  obtain rfl := iI_rep r0
  obtain rfl := iI_rep r1
  have hB : ∀ b, Bk ⟨w.heap.size, A, L, w⟩ [] g w b → b < w.heap.size := fun b h => h.1
  have hpk : ∀ w1, w.heap.size ≤ w1.heap.size → (∀ k, k < w.heap.size → w1.heap[k]? = w.heap[k]?) → Calls Tryz.prog 39 #[pkV p s1 s2] w1 fun e w2 => e = .returned (.bool (pkgOk p)) ∧ Below w1.heap.size w1 w2 := by
    intro w1 hz1 hw1
    obtain ⟨n0, hn0⟩ := s_PkgOkI p.name p.ver p.files p.deps hf hd
    obtain ⟨-, hk⟩ := callF_ok prgR n0 _ _ _ _ _ (hn0 n0 (Nat.le_refl _))
    have hr : RepV w1 (Bk ⟨w1.heap.size, fun _ => True, fun _ => False, w1⟩ [] G0 w1) G0 (ePkg p) (pkV p s1 s2) :=
      hall.mono (fun b hb => bk_nil (by have := hB b hb; omega) trivial) (fun b hb => hw1 b (hB b hb)) G0 (fun j hj => absurd (hm.fresh j (Nat.zero_le _)) hj)
    refine (hk (fun _ => True) (fun _ => False) G0 [pkV p s1 s2] w1 (fun b hb => (live_nil hb).elim) (mem_nil w1 _ _) (RepL.cons hr RepL.nil)).mono ?_
    rintro e w2 ⟨v, g', rfl, m, -, hv, -⟩
    cases hv
    exact ⟨rfl, m.out.1, m.out.2.1, m.out.2.2, m.size, fun k hk => m.frame k hk id⟩
  have fin : Calls Tryz.prog 11 #[pkV p s1 s2] w fun e w' => e = .returned (.string ⟨(pkgText p).toArray⟩) ∧ Below w.heap.size w w' := by
    unfold pkgText
    cases hok : pkgOk p
    · rw [hok] at hpk
      rw [if_neg (by decide)]
      exact text_none hpk
    · rw [hok] at hpk
      rw [if_pos rfl]
      have e1 : p.files.map eFile = (pF p.files).map fun q => .ag [iI q.1, iI q.2] := by unfold pF; rw [List.map_map]; rfl
      have e2 : p.deps.map eDep = (pD p.deps).map fun q => .ag [iI q.1, iI q.2] := by unfold pD; rw [List.map_map]; rfl
      rw [e1] at r2
      rw [e2] at r3
      exact text_walk hok hpk (pairs_of r2 hB) (pairs_of r3 hB)
  refine fin.mono ?_
  rintro e w' ⟨rfl, hb⟩
  exact ⟨_, g, rfl, mem_below hm hb, fun _ _ _ => rfl, .v rfl, Nat.le_refl _⟩
end Go.Proofs.YtebaiioejagfoaaGreatDoor

/- A second program of S: the functions of the laws that handle arrays of packages, on top of what all others answer. -/
namespace Go.Proofs.YtebaiioejagfoaaGreatDoor
open Go
set_option linter.unusedVariables false
set_option linter.unusedSimpArgs false
set_option maxHeartbeats 4000000
set_option maxRecDepth 100000
noncomputable def limF (f : Nat) : List SV → List SO → Out := relF fun args os r los => Ex (fun n => callF prg n f args os) r los
theorem ex_one {A : Nat → Out} {x y : SV} {os ps : List SO} (h : Ex A x os) (h' : Ex A y ps) : x = y ∧ os = ps := by
  obtain ⟨n, h⟩ := h
  obtain ⟨m, h'⟩ := h'
  have := (h (n + m) (by omega)).symm.trans (h' (n + m) (by omega))
  cases this
  exact ⟨rfl, rfl⟩
theorem lim_ex {f : Nat} {args : List SV} {os los : List SO} {r : SV} (h : Ex (fun n => callF prg n f args os) r los) : limF f args os = some (r, los) := by
  obtain ⟨r', los', h1, h2⟩ := relF_of (R := fun args os r los => Ex (fun n => callF prg n f args os) r los) h
  obtain ⟨rfl, rfl⟩ := ex_one h h2
  exact h1
theorem lim_ok (f : Nat) : KOK1 Tryz.prog f (limF f) := by
  intro args los los' r h
  obtain ⟨n0, h0⟩ : Ex (fun n => callF prg n f args los) r los' := relF_some h
  exact callF_ok prgR n0 f args los los' r (h0 n0 (Nat.le_refl _))
def open2 (f : Nat) : Bool := Nat.beq f 5 || Nat.beq f 4 || Nat.beq f 3 || Nat.beq f 8 || Nat.beq f 35 || Nat.beq f 10 || Nat.beq f 37 || Nat.beq f 19 || Nat.beq f 58 || Nat.beq f 57 || Nat.beq f 94
noncomputable def prim2 (f : Nat) : Option (List SV → List SO → Out) :=
  match open2 f with
  | true => none
  | false =>
    match Nat.beq f 18 with
    | true => some (relF ToR)
    | false =>
      match Nat.beq f 24 with
      | true => some (relF MarkR)
      | false => (match Nat.beq f 11 with | true => some (relF TextR) | false => some (limF f))
noncomputable def prg2 : Prg := { T := tab, own := ownF, pur := purF, code := fun f => (codeL[f]?).getD none, fi := fun f => (fiL[f]?).getD ⟨0, fun _ => ⟨false, []⟩, fun _ => none, fun _ => none⟩, prim := prim2 }
theorem prgR2 : PrgOK Tryz.prog prg2 where
  tab := tabR
  code := prgR.code
  prim := fun f q h => by
    have h' : prim2 f = some q := h
    unfold prim2 at h'
    split at h'
    · cases h'
    · split at h'
      · rename_i e; cases h'; rw [Nat.eq_of_beq_eq_true e]; exact to_ok
      · split at h'
        · rename_i e; cases h'; rw [Nat.eq_of_beq_eq_true e]; exact mark_ok
        · split at h'
          · rename_i e; cases h'; rw [Nat.eq_of_beq_eq_true e]; exact text_ok
          · cases h'; exact lim_ok f
  mix := prgR.mix
def shut2 (f : Nat) : Bool := !open2 f && !Nat.beq f 18 && !Nat.beq f 24 && !Nat.beq f 11
theorem prim_call {f : Nat} {q : List SV → List SO → Out} (h : prim2 f = some q) (n : Nat) (args : List SV) (os : List SO) : callF prg2 (n + 1) f args os = q args os := by
  have h' : prg2.prim f = some q := h
  simp only [callF, h']
theorem ex_prim {f : Nat} {q : List SV → List SO → Out} (h : prim2 f = some q) {args : List SV} {os los : List SO} {r : SV} (hq : q args os = some (r, los)) : Ex (fun n => callF prg2 n f args os) r los := ⟨1, fun n hn => by
  obtain ⟨m, rfl⟩ : ∃ m, n = m + 1 := ⟨n - 1, by omega⟩
  exact (prim_call h m args os).trans hq⟩
theorem lift {f : Nat} {args : List SV} {os los : List SO} {r : SV} (h : Ex (fun n => callF prg n f args os) r los) (hf : shut2 f = true) : Ex (fun n => callF prg2 n f args os) r los := by
  refine ex_prim (q := limF f) ?_ (lim_ex h)
  unfold shut2 at hf
  simp only [Bool.and_eq_true, Bool.not_eq_true'] at hf
  obtain ⟨⟨⟨h1, h2⟩, h3⟩, h4⟩ := hf
  unfold prim2
  rw [h1, h2, h3, h4]
theorem s_toPkgSN (s : List TPkg) (hs : lowPkgs s) : Ex (fun n => callF prg2 n 18 [.sl 4 (s.map ePkg)] []) (.osl 0) [.nst false 4 (s.map ePkg)] := by
  obtain ⟨r, los, h1, s', -, e1, -, rfl, rfl⟩ := relF_of (R := ToR) ⟨s, hs, rfl, rfl, rfl, rfl⟩
  have e2 : s.map ePkg = s'.map ePkg := by injection e1 with e1; injection e1
  rw [← e2] at h1
  exact ex_prim (q := relF ToR) rfl h1
theorem eFile_inj {a b : TFile} (h : eFile a = eFile b) : a = b := by cases a; cases b; simp at h; simp [h]
theorem eDep_inj {a b : TDep} (h : eDep a = eDep b) : a = b := by cases a; cases b; simp at h; simp [h]
theorem map_inj' {α : Type} {f : α → SV} (hf : ∀ a b, f a = f b → a = b) : ∀ {l l' : List α}, l.map f = l'.map f → l = l'
  | [], [], _ => rfl
  | [], _ :: _, h => by cases h
  | _ :: _, [], h => by cases h
  | a :: l, b :: l', h => by
    simp only [List.map_cons, List.cons.injEq] at h
    rw [hf _ _ h.1, map_inj' hf h.2]
theorem ePkg_inj {a b : TPkg} (h : ePkg a = ePkg b) : a = b := by
  cases a; cases b
  simp only [ePkg, SV.ag.injEq, List.cons.injEq, SV.v.injEq, Value.int.injEq, SV.sl.injEq, and_true, true_and] at h
  obtain ⟨h1, h2, h3, h4⟩ := h
  rw [h1, h2, map_inj' (fun _ _ => eFile_inj) h3, map_inj' (fun _ _ => eDep_inj) h4]
theorem s_markPkgSN (s : List TPkg) (hs : lowPkgs s) (k : Int) (hk : 0 ≤ k ∧ k ≤ 100000000000000) : Ex (fun n => callF prg2 n 24 [.osl 0, iI k] [.nst true 4 (s.map ePkg)]) (iI (kAt s k s.length)) [.nst true 4 ((mkS s k s.length).map ePkg)] := by
  obtain ⟨r, los, h1, ⟨s', k', hs', hk0, hk1, e1, e2, rfl, rfl⟩ | ⟨k', e1, e2, rfl, rfl⟩⟩ := relF_of (R := MarkR) (.inl ⟨s, k, hs, hk.1, hk.2, rfl, rfl, rfl, rfl⟩)
  · obtain rfl : s = s' := map_inj' (fun _ _ => ePkg_inj) (by injection e2 with e2; injection e2)
    obtain rfl : k = k' := by injection e1 with e1 e3; injection e3 with e3; injection e3 with e3; injection e3
    exact ex_prim (q := relF MarkR) rfl h1
  · cases e2
theorem kAt_rng {s : List TPkg} (hs : lowPkgs s) {k : Int} (hk : 0 ≤ k) : k ≤ kAt s k s.length ∧ kAt s k s.length ≤ k + 5000000000000 := by
  have h2 := kAt_bd hs hk s.length (Nat.le_refl _)
  have h3 := hs.1
  omega
theorem s_PkgTextN (p : TPkg) (h1 : p.files.length ≤ 2000000) (h2 : p.deps.length ≤ 2000000) : Ex (fun n => callF prg2 n 11 [ePkg p] []) (sS (pkgText p)) [] := by
  obtain ⟨r, los, h3, p', -, -, e1, -, rfl, rfl⟩ := relF_of (R := TextR) ⟨p, h1, h2, rfl, rfl, rfl, rfl⟩
  obtain rfl : p = p' := ePkg_inj (by injection e1)
  exact ex_prim (q := relF TextR) rfl h3
theorem ev_true2 {k : Nat} {args : List SV} (h : Ev (fun n => callF prg2 n k args []) fun x _ => x = .v (.bool true)) : ∃ n los, callF prg2 n k args [] = some (.v (.bool true), los) := by
  obtain ⟨x, os, rfl, n0, h0⟩ := h
  exact ⟨n0, os, h0 n0 (Nat.le_refl _)⟩
end Go.Proofs.YtebaiioejagfoaaGreatDoor

/- Sums, what is told of packages, indexes, on the program's side. -/
namespace Go.Proofs.YtebaiioejagfoaaGreatDoor
open Go
set_option linter.unusedVariables false
set_option linter.unusedSimpArgs false
set_option maxHeartbeats 4000000
set_option maxRecDepth 100000
theorem PE35 (n : Nat) (x0 : SV) (os : List SO) : callF prg2 (n + 1) 35 [x0] os = X35 (callF prg2 n) (n + 1) os.length x0 os := by kernel_rfl
theorem PU35 {Q : SV → List SO → Prop} {x0 : SV} {os : List SO} {nl : Nat} (hnl : os.length = nl) (h : Ev (fun n => B35 (callF prg2 n) (n + 1) nl x0 os) Q) : Ev (fun n => callF prg2 n 35 [x0] os) Q := by subst hnl; exact ev_fun (fun n => (PE35 n _ _).trans (X35_s _ _ _ _ _)) h
theorem PE8 (n : Nat) (x0 x1 x2 : SV) (os : List SO) : callF prg2 (n + 1) 8 [x0, x1, x2] os = X8 (callF prg2 n) (n + 1) os.length x0 x1 x2 os := by kernel_rfl
theorem PUL8_5 {nl c : Nat} {Q : SV → List SO → Prop} {x6 x8 x18 x19 x20 : SV} {os : List SO} (h : Ev (fun n => gcB nl [x6, x8, x18, x19, x20] os fun xs os => G8_5 (callF prg2 n) (n + 1) nl (n + 1 - (c + 1)) xs os) Q) : Ev (fun n => L8_5 (callF prg2 n) (n + 1) nl (n + 1 - c) x6 x8 x18 x19 x20 os) Q := ev_loop (L := fun n m => L8_5 (callF prg2 n) (n + 1) nl m x6 x8 x18 x19 x20 os) (fun n m => L8_5_s _ _ _ _ _ _ _ _ _ _) h
theorem PUG8_5 {nl : Nat} {Q : SV → List SO → Prop} (m5 : Nat → Nat) {x6 x8 x18 x19 x20 : SV} {os : List SO} (h : Ev (fun n => GB8_5 (callF prg2 n) (n + 1) nl (m5 n) x6 x8 x18 x19 x20 os) Q) : Ev (fun n => G8_5 (callF prg2 n) (n + 1) nl (m5 n) [x6, x8, x18, x19, x20] os) Q := ev_eq (fun n => G8_5_s _ _ _ _ _ _ _ _ _ _) h
theorem PU8 {Q : SV → List SO → Prop} {x0 x1 x2 : SV} {os : List SO} {nl : Nat} (hnl : os.length = nl) (h : Ev (fun n => B8 (callF prg2 n) (n + 1) nl x0 x1 x2 os) Q) : Ev (fun n => callF prg2 n 8 [x0, x1, x2] os) Q := by subst hnl; exact ev_fun (fun n => (PE8 n _ _ _ _).trans (X8_s _ _ _ _ _ _ _)) h
theorem PVL8_5 {nl : Nat} {Q : SV → List SO → Prop} {x6 x8 x18 x19 x20 : SV} {os : List SO} (h : Ev (fun n => gcB nl [x6, x8, x18, x19, x20] os fun xs os => G8_5 (callF prg2 n) (n + 1) nl (n + 1 - 1) xs os) Q) : Ev (fun n => L8_5 (callF prg2 n) (n + 1) nl (n + 1) x6 x8 x18 x19 x20 os) Q := PUL8_5 (c := 0) h
theorem ev_bytes {T : Tab} {s d e : Nat} {l : List UInt8} {y : SV} {os os' : List SO} {F : Nat → SV → List SO → Out} {Q} (hs : T.und s = some .str) (hd : T.und d = some (.slice e)) (he : T.und e = some (.int .u8))
    (hn : nf (some (.osl os.length, os ++ [.arr false 1 (l.map byteSV)])) = some (y, os')) (h2 : Ev (fun n => F n y os') Q) : Ev (fun n => bd (convS T os s d (sS l)) (F n)) Q := by
  rw [nf_eq] at hn
  refine ev_bdx (x := y) (os := os') ?_ h2
  rw [← hn]
  simp [convS, hs, hd, he]
theorem s_SumOfI_L (l : List UInt8) (hl : l.length ≤ 2000000) : ∀ i, i ≤ l.length → ∀ (s k : Int) (c : Nat), k = i → s = sumOf (l.take i) →
    Ev (fun n => L75_3 (callF prg n) (n + 1) 0 (n + 1 - c) (iI s) (.osl 0) (iI l.length) (iI k) [.arr false 1 (l.map byteSV)]) (Is (iI (sumOf l)) []) := by
  refine up_ind ?_
  intro i hi ih s k c hk hs
  subst hk
  have hr := sumOf_rng (l.take i)
  have hb : (nth l i).toNat < 256 := (nth l i).toNat_lt
  (refine UL75_3 ?_; unfold LB75_3)
  repeat' (first | ((with_reducible refine eB ?_); first | ((with_reducible refine ev_lss ?_ ?_) <;> intro h <;> try (exfalso; omega)) | ((with_reducible first | refine ev_add ?_ ?_ | refine ev_mul ?_ ?_); · omega) | ((with_reducible refine ev_rem ?_ ?_); (· omega); intro x hx hx0 hx1) | refine ev_bd rfl ?_ | refine ev_bd0 rfl ?_) | ((with_reducible refine eI ?_); first | ((with_reducible refine ev_idxn ?_ ?_ ?_); (· rfl); · omega) | (refine ev_idxon rfl rfl ?_ ?_; (· first | omega | (simp only [List.length_cons, List.length_nil, List.length_map, List.length_append]; omega))) | (refine ev_idxfn rfl rfl ?_ ?_; (focus omega)) | ((with_reducible refine ev_idx ?_ ?_ ?_); (· rfl); · omega) | (refine ev_idxo rfl rfl ?_ ?_; (· first | omega | (simp only [List.length_cons, List.length_nil, List.length_map, List.length_append]; omega))) | (refine ev_idxf rfl rfl ?_ ?_; (focus omega)) | refine ev_bd rfl ?_ | refine ev_bd0 rfl ?_) | ((with_reducible refine eV ?_); first | ( ((with_reducible refine ev_conv8 ?_ ?_ ?_ ?_); (focus rfl); (focus rfl); (focus omega); intro hy0 hy1)) | ((with_reducible refine ev_conv64 ?_ ?_ ?_ ?_); (· rfl); (· rfl); · omega) | refine ev_bd rfl ?_ | refine ev_bd0 rfl ?_) | ((with_reducible refine eK ?_); first | (with_reducible first | refine ev_ct ?_ | refine ev_cf ?_) | ((with_reducible refine ev_cond ?_ ?_) <;> intro h)) | ((with_reducible refine eO ?_); first | refine ev_bd rfl ?_ | (refine ev_bdB rfl ?_ ?_ <;> intro h <;> try (exfalso; simp_all; done)) | refine ev_bd0 rfl ?_ | (refine ev_ldm rfl ?_ rfl ?_; (focus omega)) | (refine ev_ldmB rfl ?_ rfl ?_ ?_; (focus omega); (all_goals intro h))) | ((with_reducible refine eD ?_); first | refine ev_bd rfl ?_ | refine ev_bd0 rfl ?_) | ((with_reducible refine ih ?_ _ _ _ ?_ ?_) <;> (first | omega | assumption | ((rw [sumOf_step (by omega), ← hs, hx, Int.tmod_eq_emod_of_nonneg (by omega)]; rfl)) | (simp only [*, List.map_append, List.length_append, List.length_cons, List.length_nil, List.map_cons, List.map_nil]; done) | (simp_all; done) | (simp_all; omega))) | refine ev_ret rfl ?_)
  all_goals first
    | exact ⟨by rw [hs, List.take_of_length_le (by omega)], rfl⟩
    | trace_state
theorem s_SumOfI (l : List UInt8) (hl : l.length ≤ 2000000) : Ex (fun m => callF prg m 75 [sS l] []) (iI (sumOf l)) [] := by
  refine ev_is.1 ?_
  (refine U75 (nl := 0) rfl ?_; unfold B75)
  repeat' (first | ((with_reducible refine eL ?_); first | ((with_reducible refine ev_lenm ?_ ?_); · rfl) | refine ev_lenom rfl rfl ?_ | refine ev_lenfm rfl rfl ?_ | refine ev_lenoc rfl rfl rfl ?_ | refine ev_lenc rfl rfl ?_ | refine ev_leno rfl rfl ?_ | refine ev_slen rfl ?_ | refine ev_bd rfl ?_ | refine ev_bd0 rfl ?_) | ((with_reducible refine eV ?_); first | ( (refine ev_bytes rfl rfl rfl rfl ?_)) | ((with_reducible refine ev_conv64 ?_ ?_ ?_ ?_); (· rfl); (· rfl); · omega) | refine ev_bd rfl ?_ | refine ev_bd0 rfl ?_) | ((with_reducible refine eD ?_); first | refine ev_bd rfl ?_ | refine ev_bd0 rfl ?_) | refine ev_ret rfl ?_)
  exact s_SumOfI_L l hl 0 (by omega) _ 0 0 rfl rfl
theorem s_metaOfN (p : TPkg) (h1 : p.files.length ≤ 2000000) (h2 : p.deps.length ≤ 2000000) : Ex (fun m => callF prg2 m 35 [ePkg p] []) (eMeta (metaOf p)) [] := by
  refine ev_is.1 ?_
  (refine PU35 (nl := 0) rfl ?_; unfold B35)
  repeat' (first | ((with_reducible refine eC ?_); first | ((refine ev_call (s_PkgTextN p h1 h2) rfl rfl ?_ rfl ?_); (focus first | exact .inl rfl | exact .inr rfl | (refine .inr ?_; simp [flagC, ownF, hasSl3, hasSl1, SO.hasSl, List.all_map, flatSV, SV.cells, Function.comp_def]; done))) | ((refine ev_call (lift (s_SumOfI (pkgText p) (Nat.le_trans (pkgText_len _) (by decide))) rfl) rfl rfl ?_ rfl ?_); (focus first | exact .inl rfl | exact .inr rfl | (refine .inr ?_; simp [flagC, ownF, hasSl3, hasSl1, SO.hasSl, List.all_map, flatSV, SV.cells, Function.comp_def]; done)))) | ((with_reducible refine eO ?_); first | refine ev_bd rfl ?_ | (refine ev_bdB rfl ?_ ?_ <;> intro h <;> try (exfalso; simp_all; done)) | refine ev_bd0 rfl ?_ | (refine ev_ldm rfl ?_ rfl ?_; (focus omega)) | (refine ev_ldmB rfl ?_ rfl ?_ ?_; (focus omega); (all_goals intro h))) | ((with_reducible refine eD ?_); first | refine ev_bd rfl ?_ | refine ev_bd0 rfl ?_) | ((with_reducible refine ev_dchk ?_ ?_); · intro _; rfl) | refine ev_ret rfl ?_)
  all_goals first | exact ⟨rfl, rfl⟩ | trace_state
end Go.Proofs.YtebaiioejagfoaaGreatDoor

/- What holds of the newest in a store. -/
namespace Go.Proofs.YtebaiioejagfoaaGreatDoor
open Go
set_option linter.unusedVariables false
set_option linter.unusedSimpArgs false
theorem storeOk_iff {s : List TPkg} : storeOk s = true ↔ ∀ i, i < s.length → pkgAt s i := by simp [storeOk]
theorem store_grow {s : List TPkg} (h : storeOk s = true) : ∀ j i, i < j → j < s.length → pless (nth s i) (nth s j) := by
  intro j
  induction j with
  | zero => intro i hi; omega
  | succ j ih =>
    intro i hi hj
    have h1 := (storeOk_iff.1 h (j + 1) hj).2 (by omega)
    simp only [Nat.add_sub_cancel] at h1
    by_cases e : i = j
    · subst e; exact h1
    · have := ih i (by omega) (by omega)
      unfold pless at *; omega
end Go.Proofs.YtebaiioejagfoaaGreatDoor
