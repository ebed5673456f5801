/- VALUE SEMANTICS: new slices in a region of many orders; their places are named behind it. Nothing here names a program. -/
import Derived.Test.YtfgdajmcgincoaaVsx
set_option linter.unusedVariables false
set_option linter.unusedSimpArgs false
set_option linter.unusedSectionVars false
namespace Go.Vs

/-- A slice of a block of its own, at a new place. -/
def NewLP (qs : List Plc) (n : Nat) (T : TypeId) (es : List (List PV)) (B : Nat → Prop) (w : World) (v : Value) : Prop :=
  ∃ q, (∀ b, inQ q b → n ≤ b ∧ ∀ q' ∈ qs, ¬ inQ q' b) ∧ LP q T es B w v
theorem rep_NewLP {ρ : Id → Option (Nat × Nat)} {w : World} {S : Nat → Prop} {M : Mem} {v : Value} {qs : List Plc} {n : Nat} {T : TypeId} {es : List (List PV)} : Rep ρ w S M v (.sem (NewLP qs n T es)) ↔ NewLP qs n T es S w v := by
  constructor
  · intro h
    obtain ⟨_, B, hB, h⟩ := rep_sem.1 h
    obtain ⟨q, h1, h2⟩ := h w fun _ _ => rfl
    exact ⟨q, h1, h2.cong (fun _ _ => rfl) fun b hb => hB b (h2.1 b hb)⟩
  · rintro ⟨q, h1, h2⟩
    exact rep_sem.2 ⟨h2.one, inQ q, h2.1, fun w' ha => ⟨q, h1, h2.cong ha fun _ h => h⟩⟩
theorem allR_imp {R R' : PV → PV → Prop} (h : ∀ x y, R x y → R' x y) : ∀ {xs ys : List PV}, AllR R xs ys → AllR R' xs ys
  | [], [], _ => trivial
  | x :: xs, y :: ys, hl => ⟨h x y hl.1, allR_imp h hl.2⟩
  | [], _ :: _, hl => hl.elim
  | _ :: _, [], hl => hl.elim

section
variable [fl : Inhabited FlrT]
/-- Where a slice that a row's cell holds lies, no other row lies. -/
theorem row_apart {G : Nat → Prop} {ρ : Id → Option (Nat × Nat)} {w0 w : World} {X : List (Option (Nat × Nat))} {M : Mem} (hW : WRel G ρ w0 X M w) {idr id : Id} {row r : Row} (h1 : M idr = some (some row)) (h2 : M id = some (some r))
    {e : List PV} (he : e ∈ row.es) {q' : Plc} {T' : TypeId} {es' : List (List PV)} (hc : PV.sem (LP q' T' es') ∈ e) {b : Nat} (hb : inQ (ρ id) b) : ¬ inQ q' b := by
  intro hq'
  obtain ⟨z, hz⟩ := hb
  have hr := hW.row idr row h1
  obtain ⟨i, hi⟩ := List.mem_iff_getElem?.1 he
  obtain ⟨j, hj⟩ := List.mem_iff_getElem?.1 hc
  cases hb : ρ idr with
  | none => rw [hb] at hr; rw [hr.1] at he; cases he
  | some bz =>
    obtain ⟨b0, z0⟩ := bz
    rw [hb] at hr
    obtain ⟨cur, C, g1, g2, g3, g4, g5, g6⟩ := hr
    obtain ⟨c, c1, c2, c3⟩ := (g6 i e hi).2 j _ hj
    exact ((rep_LP.1 c3).1 b hq').2.1 id _ z h2 hz
theorem sem_newF {P : Program} {o : Oper} {V : Nat → PV} {M : Mem} {c : Call} {f : Operand} {g : FuncId} {fi ca ys : List PV} {T : TypeId} {es : List (List PV)} {rd : List Id} {idr : Id} {row : Row} {qs : List Plc} {d : Nat} (ho : o.op = .call c) (hd : o.dst = some d) (hcal : c.callee = .value f) (hev : ev V f = .fn g fi ca)
    (hC : Con P g ys (.olist T 1 es)) (hfl : flatE es) (hdio : d ≠ io) (hfree : ∀ k, M (d, k) = none) (hsnap : AllR (SnapD 6 M [] rd) (fi ++ c.args.toList.map (ev V) ++ ca) ys) (hrow : M idr = some (some row)) (hqs : ∀ q ∈ qs, ∃ e ∈ row.es, ∃ T' es', PV.sem (LP q T' es') ∈ e) :
    SemStep P o V M ⟨.sem (NewLP qs flN T es), [((d, 0), none)], idr :: rd⟩ := by
  intro V' M' hV' hM' G w0 X N a w K Q hdN hF hR hK
  obtain ⟨ρ, hW, hdef, hs, hV⟩ := hR
  have hop : o.op.operands = c.operands := by rw [ho]; rfl
  have hev' : ev V' f = .fn g fi ca := by rw [hV' f (by rw [hop]; simp [Call.operands, hcal])]; exact hev
  have hargsE : c.args.toList.map (ev V') = c.args.toList.map (ev V) := List.map_congr_left fun y hy => hV' y (by rw [hop]; simp [Call.operands]; exact .inr (Array.mem_toList_iff.1 hy))
  have hfree' : ∀ k, M' (d, k) = none := fun k => by rw [hM' (d, k) (by simp)]; exact hfree k
  have hrow' : M' idr = some (some row) := by rw [hM' idr (by simp)]; exact hrow
  have hsnap' : AllR (SnapD 6 M' [] rd) (fi ++ c.args.toList.map (ev V') ++ ca) ys := by
    rw [hargsE]
    exact allR_imp (fun x y h => snapD_congr 6 [] rd x y (fun id hid => hM' id (List.mem_map.2 ⟨id, List.mem_append_left _ (List.mem_cons_of_mem _ hid), rfl⟩)) h) hsnap
  refine wp_of_call (t := d) (al := false) (fz := false) (ids := []) (rd := rd) (ios := []) (Post := Ret (.olist T 1 es)) hdN hdef hs hW hV ⟨⟨c, f, g, fi, ca, ys, ho, hcal, hev', fun t ht => by rw [hd] at ht; injection ht with ht; exact ht.symm, hC false,
    ⟨hdio, hfree', hsnap', rfl, List.nodup_nil, fun k id row h => by simp at h, fun id _ h => by simp at h, .inr ⟨rfl, rfl, rfl⟩⟩⟩⟩ ?_
  rintro r fin a' w' ⟨rfl, rfl⟩ _ hR'
  have hups : callUps M' d [] rd false (.olist T 1 es) (backF M' [] [] []) = [((d, 0), some ⟨T, 1, es, false⟩)] := by simp [callUps, ioUps, frzUps]; rfl
  rw [hups] at hR'
  obtain ⟨ρ2, W, hdef2, hs2, hV2⟩ := hR'
  have hM2 : (M'.upds [((d, 0), some (⟨T, 1, es, false⟩ : Row))]) (d, 0) = some (some ⟨T, 1, es, false⟩) := by simp [Mem.upds, Mem.set]
  have hne : idr ≠ (d, 0) := fun e => by rw [e, hfree' 0] at hrow'; cases hrow'
  have hM2r : (M'.upds [((d, 0), some (⟨T, 1, es, false⟩ : Row))]) idr = some (some row) := by simp [Mem.upds, Mem.set, hne, hrow']
  have hnew := W.new (d, 0) _ hM2
  rw [if_neg hdio] at hnew
  obtain ⟨T3, W3⟩ := W.dead hM2
  have hE : (M'.upds [((d, 0), some (⟨T, 1, es, false⟩ : Row))]).set (d, 0) none = M'.upds [((d, 0), none)] := by
    funext id
    by_cases h : id = (d, 0) <;> simp [Mem.upds, Mem.set, h]
  refine hK a' w' ⟨ρ2, by rw [← hE]; exact W3, hdef2, hs2, fun t => ?_⟩
  have ht := hV2 t
  rw [hd] at ht ⊢
  simp only [putV] at ht ⊢
  by_cases h : t = d
  · subst h
    rw [if_pos rfl] at ht ⊢
    rw [← hE]
    refine rep_NewLP.2 ⟨ρ2 (t, 0), fun b hb => ⟨?_, fun q' hq' => ?_⟩, ?_, (rep_osl hM2).1 ht, rowFlat_cong hfl (W.row _ _ hM2) fun _ _ => rfl, hfl⟩
    · obtain ⟨z, hz⟩ := hb
      rcases hnew b z hz with h | ⟨z', h⟩
      · exact Nat.le_trans hF.1 h
      · exact hF.2.2 b z' h
    · obtain ⟨e, he, T', es', hc⟩ := hqs q' hq'
      exact row_apart W hM2r hM2 he hc hb
    · rintro b ⟨z, hz⟩
      refine ⟨W.lt hM2 hz, fun id' r' z' h1 h2 => ?_, W.good b (hnew b z hz)⟩
      have hne : id' ≠ (t, 0) := fun e => by rw [e] at h1; simp [Mem.set] at h1
      simp only [Mem.set, if_neg hne] at h1
      exact hne (W.inj id' (t, 0) r' _ b z' z h1 hM2 h2 hz)
  · rw [if_neg h] at ht ⊢
    rw [← hE]
    exact T3.rep ht

/-- The last cell's slice gets a name. -/
theorem ent_name {env : List (Nat × PV)} {mem : List (Id × Option Row)} {id : Id} {TS sz : Nat} {es0 : List (List PV)} {u : PV} {qs : List Plc} {n : Nat} {T : TypeId} {es : List (List PV)} (hm : getM mem id = some (some ⟨TS, sz, es0 ++ [[u, .sem (NewLP qs n T es)]], false⟩)) :
    EntN ⟨env, mem⟩ fun st' => ∃ q, (∀ b, inQ q b → n ≤ b ∧ ∀ q' ∈ qs, ¬ inQ q' b) ∧ st' = ⟨env, (id, some ⟨TS, sz, es0 ++ [[u, .sem (LP q T es)]], false⟩) :: mem⟩ := by
  intro G w0 X N a w hF ⟨ρ, hW, hd, hs, hV⟩
  have hM1b : St.M ⟨env, mem⟩ id = some (some ⟨TS, sz, es0 ++ [[u, .sem (NewLP qs n T es)]], false⟩) := hm
  -- the place
  obtain ⟨b0, z0, hρ, cur, C, k1, k2, k3, k4, k5, k6⟩ : ∃ b0 z0, ρ id = some (b0, z0) ∧ ∃ (cur : Array Value) (C : Nat), w.heap[b0]? = some (.cells cur TS (0, 0)) ∧ cur.size = z0 + C * sz ∧ C ≤ maxLen ∧ (es0 ++ [[u, .sem (NewLP qs n T es)]]).length ≤ C ∧ 0 < sz ∧
      ∀ (i : Nat) e, (es0 ++ [[u, .sem (NewLP qs n T es)]])[i]? = some e → e.length = sz ∧ ∀ (j : Nat) u, e[j]? = some u → ∃ c, cur[z0 + i * sz + j]? = some c ∧ c.oneCell' = true ∧ Rep ρ w (Stab G ρ (St.M ⟨env, mem⟩) w) noMem c u := by
    have hr := hW.row id _ hM1b
    cases hb : ρ id with
    | none => rw [hb] at hr; have h0 := hr.1; simp at h0
    | some bz => obtain ⟨b, z⟩ := bz; rw [hb] at hr; exact ⟨b, z, rfl, hr⟩
  obtain ⟨cl, c1, c2, c3⟩ := (k6 es0.length [u, .sem (NewLP qs n T es)] (by simp)).2 1 _ rfl
  obtain ⟨q, hq, hLP⟩ := rep_NewLP.1 c3
  refine ⟨_, ⟨q, hq, rfl⟩, ?_⟩
  have hst : St.M ⟨env, (id, some ⟨TS, sz, es0 ++ [[u, .sem (LP q T es)]], false⟩) :: mem⟩ = (St.M ⟨env, mem⟩).set id (some ⟨TS, sz, es0 ++ [[u, .sem (LP q T es)]], false⟩) := by
    show getM ((id, some ⟨TS, sz, es0 ++ [[u, .sem (LP q T es)]], false⟩) :: mem) = _
    rw [show ((id, some (⟨TS, sz, es0 ++ [[u, .sem (LP q T es)]], false⟩ : Row)) :: mem) = [(id, some ⟨TS, sz, es0 ++ [[u, .sem (LP q T es)]], false⟩)] ++ mem from rfl, getM_app]
    rfl
  have hlive : ∀ i r, ((St.M ⟨env, mem⟩).set id (some ⟨TS, sz, es0 ++ [[u, .sem (LP q T es)]], false⟩)) i = some (some r) → (i = id ∧ r = ⟨TS, sz, es0 ++ [[u, .sem (LP q T es)]], false⟩) ∨ (i ≠ id ∧ (St.M ⟨env, mem⟩) i = some (some r)) := by
    intro i r h
    by_cases he : i = id
    · subst he
      simp only [Mem.set, if_true, Option.some.injEq] at h
      exact .inl ⟨rfl, h.symm⟩
    · simp only [Mem.set, he, if_false] at h
      exact .inr ⟨he, h⟩
  have hold : ∀ i r, ((St.M ⟨env, mem⟩).set id (some ⟨TS, sz, es0 ++ [[u, .sem (LP q T es)]], false⟩)) i = some (some r) → ∃ r0, (St.M ⟨env, mem⟩) i = some (some r0) := fun i r h => by
    rcases hlive i r h with ⟨rfl, _⟩ | ⟨_, h2⟩
    · exact ⟨_, hM1b⟩
    · exact ⟨_, h2⟩
  have T2 : Trans G ρ (St.M ⟨env, mem⟩) w ρ ((St.M ⟨env, mem⟩).set id (some ⟨TS, sz, es0 ++ [[u, .sem (LP q T es)]], false⟩)) w := by
    refine ⟨fun b hb => ⟨⟨hb.1, fun i r z h => ?_, hb.2.2⟩, rfl⟩, fun i => ?_⟩
    · obtain ⟨r0, h0⟩ := hold i r h
      exact hb.2.1 i r0 z h0
    · cases hi : (St.M ⟨env, mem⟩) i with
      | none => trivial
      | some o =>
        by_cases he : i = id
        · subst he
          rw [hM1b] at hi
          injection hi with hi
          subst hi
          exact .inr ⟨⟨TS, sz, es0 ++ [[u, .sem (LP q T es)]], false⟩, by simp [Mem.set], rfl, rfl, by simp, rfl, fun b z hb cur hcur => ⟨cur, hcur, rfl⟩⟩
        · cases o with
          | none => simp [Mem.set, he, hi]
          | some r0 => exact .inr ⟨r0, by simp [Mem.set, he, hi], rfl, rfl, Nat.le_refl _, rfl, fun b z hb cur hcur => ⟨cur, hcur, rfl⟩⟩
  refine ⟨ρ, ?_, hd, hs, fun s => by rw [hst]; exact T2.rep (hV s)⟩
  rw [hst]
  refine ⟨fun i1 i2 r1 r2 b z1 z2 h1 h2 => ?_, fun i r h => ?_, fun i r h => ?_, hW.keep, hW.good, hW.tab.mono T2.stab⟩
  · obtain ⟨q1, m1⟩ := hold i1 r1 h1
    obtain ⟨q2, m2⟩ := hold i2 r2 h2
    exact hW.inj i1 i2 q1 q2 b z1 z2 m1 m2
  · rcases hlive i r h with ⟨rfl, rfl⟩ | ⟨he, h2⟩
    · rw [hρ]
      refine ⟨cur, C, k1, k2, k3, by simpa using k4, k5, fun j e hj => ?_⟩
      rcases Nat.lt_or_ge j es0.length with hlt | hge
      · rw [List.getElem?_append_left hlt] at hj
        obtain ⟨m1, m2⟩ := k6 j e (by rw [List.getElem?_append_left hlt]; exact hj)
        exact ⟨m1, fun t x hx => let ⟨c, p1, p2, p3⟩ := m2 t x hx; ⟨c, p1, p2, T2.repB (b := false) p3⟩⟩
      · have hlt2 := (List.getElem?_eq_some_iff.1 hj).1
        have hje : j = es0.length := by simp at hlt2; omega
        subst hje
        simp at hj
        subst hj
        obtain ⟨m1, m2⟩ := k6 es0.length [u, .sem (NewLP qs n T es)] (by simp)
        refine ⟨by simpa using m1, fun t x hx => ?_⟩
        match t, hx with
        | 0, hx =>
          obtain ⟨c, p1, p2, p3⟩ := m2 0 x (by simpa using hx)
          exact ⟨c, p1, p2, T2.repB (b := false) p3⟩
        | 1, hx =>
          simp at hx
          subst hx
          exact ⟨cl, c1, c2, rep_LP.2 (hLP.cong (fun _ _ => rfl) fun b hb => (T2.stab b (hLP.1 b hb)).1)⟩
        | t + 2, hx => simp at hx
    · exact (hW.row i r h2).mono T2 fun b z _ => rfl
  · obtain ⟨r0, h0⟩ := hold i r h
    exact hW.new i r0 h0

section
variable {P : Program} {ops : Array Oper} {draw : Bool} {rest : List Oper} {env : List (Nat × PV)} {mem : List (Id × Option Row)} {tr : List (List Id × List Id)} {K : St → List (List Id × List Id) → Prop}
  {d : Nat} {ty : TypeId} {pos : String} {af : Array Edge} {x y c : Operand} {T yT : TypeId}
theorem x_newF {f : Operand} {args : List Operand} {ats : Array TypeId} {g : FuncId} {fi ca xs ys : List PV} {es : List (List PV)} {rd : List Id} {row : Row} (idr : Id) (qs : List Plc) (hC : Con P g ys (.olist T 1 es)) (hfl : flatE es) (hf : ev (getE env) f = .fn g fi ca)
    (hxs : fi ++ args.map (ev (getE env)) ++ ca = xs) (hrd : rdL (rdO true 6 mem) xs ys [] = some rd) (hsnap : AllR (SnapD 6 (getM mem) [] rd) xs ys) (hfree : freeB mem d = true) (hm : getM mem idr = some (some row)) (hqs : ∀ q ∈ qs, ∃ e ∈ row.es, ∃ T' es', PV.sem (LP q T' es') ∈ e)
    (hk : exec P ops draw rest ⟨(d, .sem (NewLP qs flN T es)) :: env, ((d, 0), none) :: mem⟩ ((idr :: rd, [(d, 0)]) :: tr) K) :
    exec P ops draw (⟨some d, .call ⟨.value f, args.toArray, ats⟩, ty, pos, af, none⟩ :: rest) ⟨env, mem⟩ tr K := by
  obtain ⟨h1, h2⟩ := freeB_ok hfree
  subst hxs
  exact x_sem ⟨.sem (NewLP qs flN T es), [((d, 0), none)], idr :: rd⟩ rfl (sem_newF (c := ⟨.value f, args.toArray, ats⟩) rfl rfl rfl hf hC hfl h1 h2 (by simpa using hsnap) hm hqs) hk
theorem x_nameAdd {m n : Int} (id : Id) {TS sz n0 : Nat} {es0 : List (List PV)} {u : PV} {qs : List Plc} {T1 : TypeId} {es : List (List PV)} (hx : ev (getE env) x = .int .i64 m) (hy : ev (getE env) y = .int .i64 n) (hb : -9223372036854775808 ≤ m + n ∧ m + n ≤ 9223372036854775807)
    (hm : getM mem id = some (some ⟨TS, sz, es0 ++ [[u, .sem (NewLP qs n0 T1 es)]], false⟩))
    (hk : ∀ q, (∀ b, inQ q b → n0 ≤ b ∧ ∀ q' ∈ qs, ¬ inQ q' b) → exec P ops false rest ⟨(d, .int .i64 (m + n)) :: env, (id, some ⟨TS, sz, es0 ++ [[u, .sem (LP q T1 es)]], false⟩) :: mem⟩ (([], []) :: tr) K) :
    exec P ops false (⟨some d, .binOp .add T x y yT, ty, pos, af, none⟩ :: rest) ⟨env, mem⟩ tr K := by
  refine x_big (fun st' => ∃ q, (∀ b, inQ q b → n0 ≤ b ∧ ∀ q' ∈ qs, ¬ inQ q' b) ∧ st' = ⟨(d, .int .i64 (m + n)) :: env, (id, some ⟨TS, sz, es0 ++ [[u, .sem (LP q T1 es)]], false⟩) :: mem⟩) rfl ?_ rfl (fun st' ⟨q, hq, e⟩ => by rw [e]; exact hk q hq)
  intro G w0 X N a w K Q hdN hF hR hK
  obtain ⟨_, ⟨q, hq, rfl⟩, ρ, hW, hdef, hs, hV⟩ := ent_name hm G w0 X N a w hF hR
  have hstep : OpStep P (some d) (.binOp .add T x y yT) (St.V ⟨env, (id, some ⟨TS, sz, es0 ++ [[u, .sem (LP q T1 es)]], false⟩) :: mem⟩) (St.M ⟨env, (id, some ⟨TS, sz, es0 ++ [[u, .sem (LP q T1 es)]], false⟩) :: mem⟩) ⟨.int .i64 (m + n), [], []⟩ :=
    ⟨_, by simp only [BinOk, St.V, hx, hy]; exact ⟨.inl trivial, by simp only [intBin]; rw [wrap_in hb]⟩, rfl⟩
  refine wp_of_res hdN hdef hs hV (op_sound hW hV hstep) fun a' w' hR' => hK _ a' w' ⟨q, hq, rfl⟩ ?_
  have := hR'
  rw [show St.V ⟨(d, .int .i64 (m + n)) :: env, (id, some ⟨TS, sz, es0 ++ [[u, .sem (LP q T1 es)]], false⟩) :: mem⟩ = putV (getE env) (some d) (.int .i64 (m + n)) from getE_put env (some d) _]
  exact this
end
end
end Go.Vs
