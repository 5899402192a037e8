/-
What the interpreter says of an operation, the machine does.
-/
import Derived.Test.YtploddijjofphaaDoorUU
namespace Go.Proofs.YtploddijjofphaaDoor.V
set_option linter.unusedSimpArgs false
set_option linter.unusedVariables false
open Go Go.RowKit

variable {c : Cx} {g : Gh} {w : World}

theorem cond_some {α : Type} {b : Bool} {x y z : α} (h : (bif b then some x else some y) = some z) : x = z ∨ y = z := by
  cases b
  · exact .inr (Option.some.inj h)
  · exact .inl (Option.some.inj h)

theorem op_all {T : Tab} (hT : TabOk c.P T) {C : Callees} (hC : CallOK c C) {flip : Nat → Nat} {st st' : St} {a : Act} {o : Oper} {d : D} (hf : FS c g st.L st.τ st.B w) (he : EnvR c g (dom st.L) st.τ.length w st.ρ a)
    (hd : opV T flip C o st = some (d, st')) : OpOk c g st w a o d st' := by
  unfold opV at hd
  split at hd
  · rename_i x ho
    injection hd with hd; injection hd with h1 h2; subst h1; subst h2
    exact op_move (.inl ho) hf he
  · rename_i x ho
    injection hd with hd; injection hd with h1 h2; subst h1; subst h2
    exact op_move (.inr ho) hf he
  · rename_i x y z ho
    split at hd
    · rename_i t hx
      injection hd with hd; injection hd with h1 h2; subst h1; subst h2
      exact op_pick ho hf he hx
    · cases hd
  · rename_i e ho
    split at hd
    · rename_i ti ht
      cases hfl : Nat.beq (flipD flip o.dst) 0 with
      | true =>
        rw [hfl] at hd
        injection hd with hd; injection hd with h1 h2; subst h1; subst h2
        exact op_alloc hT ho hf ht
      | false =>
        rw [hfl] at hd
        simp only [cond_false] at hd
        cases hgl : ti.zero.cells.all D.global with
        | false => rw [hgl] at hd; cases hd
        | true =>
          rw [hgl] at hd
          injection hd with hd; injection hd with h1 h2; subst h1; subst h2
          exact op_alloc_shared hT ho hf ht
    · cases hd
  · rename_i e x ho
    split at hd
    · rename_i ti ht
      cases hb : (Nat.beq (evalT T e st.ρ x).cells.length ti.sz && (evalT T e st.ρ x).cells.all D.leaf) with
      | false => rw [hb] at hd; cases hd
      | true =>
        rw [hb] at hd
        simp only [cond_true] at hd
        simp only [Bool.and_eq_true] at hb
        cases hfl : Nat.beq (flipD flip o.dst) 0 with
        | true =>
          rw [hfl] at hd
          injection hd with hd; injection hd with h1 h2; subst h1; subst h2
          exact op_box (T := T) ho hf he hb.2
        | false =>
          rw [hfl] at hd
          simp only [cond_false] at hd
          split at hd
          · rename_i ds hds
            cases hfl1 : Nat.beq (flipD flip o.dst) 1 with
            | true =>
              rw [hfl1] at hd
              injection hd with hd; injection hd with h1 h2; subst h1; subst h2
              exact op_box_frozen (T := T) ho hf he hb.2 hds
            | false =>
              rw [hfl1] at hd
              injection hd with hd; injection hd with h1 h2; subst h1; subst h2
              exact op_box_shared (T := T) ho hf he hb.2 hds
          · cases hd
    · cases hd
  · rename_i fn first caps ho
    split at hd
    · rename_i f hfi
      cases hfl : (capsV st.ρ caps.toList).all D.flat with
      | false => rw [hfl] at hd; cases hd
      | true =>
        rw [hfl] at hd
        injection hd with hd; injection hd with h1 h2; subst h1; subst h2
        exact op_makeFunc ho hfi hf he hfl
    · cases hd
  · rename_i t parts ho
    split at hd
    · rename_i d' hb
      injection hd with hd; injection hd with h1 h2; subst h1; subst h2
      exact op_build hT ho hf he hb
    · cases hd
  · rename_i t len parts ho
    split at hd
    · rename_i ti ht
      split at hd
      · rename_i e htd
        split at hd
        · rename_i ei hei
          split at hd
          · rename_i ps hps
            cases hb : (Nat.beq ei.sz 0 || !(Nat.ble (len * ei.sz) 16777216)) with
            | true => rw [hb] at hd; cases hd
            | false =>
              rw [hb] at hd
              simp only [cond_false] at hd
              simp only [Bool.or_eq_false_iff, Bool.not_eq_false'] at hb
              split at hd
              · rename_i xs hfill
                have key := op_buildSlice hT ho hf he ht htd hei hps (fun h => by have := hb.1; simp [h] at this) (Nat.le_of_ble_eq_true hb.2) hfill
                have hcs : ∀ {b : Bool} {x y : Option (D × St)}, (bif b then x else y) = some (d, st') → x = some (d, st') ∨ y = some (d, st') := fun {b x y} h => by
                  cases b
                  · exact .inr h
                  · exact .inl h
                rcases hcs hd with hd | hd
                · cases hb2 : (Nat.beq ei.sz 1 && xs.all D.leaf) with
                  | false => rw [hb2] at hd; cases hd
                  | true =>
                    rw [hb2] at hd
                    simp only [cond_true] at hd
                    simp only [Bool.and_eq_true] at hb2
                    injection hd with hd; injection hd with h1 h2; subst h1; subst h2
                    exact key.2 (beq_of hb2.1) hb2.2
                · injection hd with hd; injection hd with h1 h2; subst h1; subst h2
                  exact key.1
              · cases hd
          · cases hd
        · cases hd
      · cases hd
    · cases hd
  · rename_i t x ho
    split at hd
    · rename_i d' hl
      injection hd with hd; injection hd with h1 h2; subst h1; subst h2
      exact op_load hT ho hf he hl
    · cases hd
  · rename_i t p x ho
    split at hd
    · rename_i st2 hs
      injection hd with hd; injection hd with h1 h2; subst h1; subst h2
      exact op_store hT ho hf he hs
    · cases hd
  · rename_i x ho
    split at hd
    · rename_i i off hx
      injection hd with hd; injection hd with h1 h2; subst h1; subst h2
      exact op_nilCheck ho hf he hx (.inl ⟨_, _, rfl⟩)
    · rename_i b off hx
      injection hd with hd; injection hd with h1 h2; subst h1; subst h2
      exact op_nilCheck ho hf he hx (.inr (.inl ⟨_, _, rfl⟩))
    · rename_i ds hx
      injection hd with hd; injection hd with h1 h2; subst h1; subst h2
      exact op_nilCheck ho hf he hx (.inr (.inr ⟨_, rfl⟩))
    · cases hd
  · rename_i op t x y u ho
    split at hd
    · rename_i d' hb
      injection hd with hd; injection hd with h1 h2; subst h1; subst h2
      exact op_binOp hT ho hf he hb
    · cases hd
  · rename_i op t x ho
    split at hd
    · rename_i d' hb
      injection hd with hd; injection hd with h1 h2; subst h1; subst h2
      exact op_unOp ho hf he hb
    · cases hd
  · rename_i s t x ho
    exact op_convert hT ho hf he hd
  · rename_i t x ho
    split at hd
    · rename_i ti ht
      split at hd
      · cases hd
      · cases hd
      · rename_i h1 h2
        cases hg : (evalT T t st.ρ x).global with
        | false => rw [hg] at hd; cases hd
        | true =>
          rw [hg] at hd
          simp only [cond_true] at hd
          injection hd with hd; injection hd with e1 e2; subst e1; subst e2
          exact op_makeInterface hT ho hf he ht (fun h => h1 h) (fun h => h2 h) hg
    · cases hd
  · rename_i t l m ho
    split at hd
    · rename_i _ ti _ ht
      split at hd
      · rename_i e htd
        split at hd
        · rename_i ei n m' hei hl hm
          split at hd
          · rename_i hnm
            obtain ⟨rfl, h0⟩ := hnm
            cases hb : (roomy n.toNat ei.bytes && Nat.beq ei.sz 1 && Nat.ble 1 ei.bytes && ei.zero.leaf) with
            | false => rw [hb] at hd; cases hd
            | true =>
              rw [hb] at hd
              simp only [cond_true] at hd
              simp only [Bool.and_eq_true] at hb
              obtain ⟨⟨⟨b1, b2⟩, b3⟩, b4⟩ := hb
              have hn : n = ((n.toNat : Nat) : Int) := by omega
              have key := op_makeSlice hT ho hf he ht htd hei (n := n.toNat) (by rw [hl, ← hn]) (by rw [hm, ← hn]) (roomy_le b1) (beq_of b2) (Nat.le_of_ble_eq_true b3) b4
              rcases cond_some hd with hd | hd
              · injection hd with e1 e2; subst e1; subst e2; exact key.1
              · injection hd with e1 e2; subst e1; subst e2; exact key.2
          · cases hd
        · cases hd
      · cases hd
    · cases hd
  · rename_i t x lo hi mx ho
    split at hd
    · rename_i arr sz l h m hrow hl hh hm
      split at hd
      · rename_i d' hs
        injection hd with hd; injection hd with e1 e2; subst e1; subst e2
        exact op_slice hT ho hf he hrow hl hh hm hs
      · cases hd
    · cases hd
  · rename_i s x f ho
    split at hd
    · rename_i ti ht
      split at hd
      · rename_i fs htd
        split at hd
        · rename_i off u hfs
          split at hd
          · rename_i ui d' hu hfa
            cases hb : Nat.beq ui.sz 0 with
            | true => rw [hb] at hd; cases hd
            | false =>
              rw [hb] at hd
              simp only [cond_false] at hd
              injection hd with hd; injection hd with e1 e2; subst e1; subst e2
              exact op_fieldAddr hT ho hf he ht htd hfs hu (fun h => by simp [h] at hb) hfa
          · cases hd
        · cases hd
      · cases hd
    · cases hd
  · rename_i s x f ho
    split at hd
    · rename_i ti ht
      split at hd
      · rename_i fs htd
        split at hd
        · rename_i off u hfs
          split at hd
          · rename_i ui ds hu hx
            split at hd
            · rename_i d' hp
              injection hd with hd; injection hd with e1 e2; subst e1; subst e2
              exact op_field hT ho hf he ht htd hfs hu hx hp
            · cases hd
          · cases hd
        · cases hd
      · cases hd
    · cases hd
  · rename_i t x i ho
    split at hd
    · rename_i arr sz j hrow hj
      split at hd
      · rename_i d' hi
        injection hd with hd; injection hd with e1 e2; subst e1; subst e2
        exact op_indexAddr hT ho hf he hrow hj hi
      · cases hd
    · cases hd
  · rename_i t x i ho
    split at hd
    · rename_i ti j s ht hj hx
      split at hd
      · rename_i htd
        split at hd
        · rename_i b hb
          injection hd with hd; injection hd with e1 e2; subst e1; subst e2
          exact op_index_str hT ho hf he ht htd hj hx hb
        · cases hd
      · cases hd
    · rename_i ti j ds ht hj hx
      split at hd
      · rename_i n e htd
        split at hd
        · rename_i ei hei
          split at hd
          · rename_i hjn
            split at hd
            · rename_i d' hp
              injection hd with hd; injection hd with e1 e2; subst e1; subst e2
              exact op_index_arr hT ho hf he ht htd hei hj hjn hx hp
            · cases hd
          · cases hd
        · cases hd
      · cases hd
    · cases hd
  · rename_i t ix ho
    split at hd
    · rename_i ds hx
      split at hd
      · rename_i d' hi
        injection hd with hd; injection hd with e1 e2; subst e1; subst e2
        exact op_extract ho hf he hx hi
      · cases hd
    · cases hd
  · rename_i cl ho
    split at hd
    · rename_i b hb
      exact op_builtin hT ho hb hf he hd
    · rename_i f hb
      exact op_call hC ho hb hf he hd
    · cases hd
  · cases hd

end Go.Proofs.YtploddijjofphaaDoor.V
