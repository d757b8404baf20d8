/- The statement on keys: what its function returns. Conditions: in each. -/
import Derived.Test.YtihpnhkhgobblaaGreatDoorXK2
import Derived.Test.YtihpnhkhgobblaaGreatDoorXV16
namespace Go.Eng
open Go Go.Proofs

set_option maxRecDepth 10000

theorem decide_self (x : Int) : decide (x = x) = true := decide_eq_true rfl

theorem c3 {g : Nat} {q q' : Option Addr} {cp cp' : Nat} {a b : List Int} {σ : Heap} {R : Value → Heap → Prop} (hF : FrOK g σ) (ha : σ.row q a.length (ints a)) (hb : σ.row q' b.length (ints b))
    (h : ∀ σ', Ext σ σ' → R (.bool true) σ') : ACalls Tryz.prog 3 [.slice q a.length cp, .slice q' b.length cp'] σ R := by
  refine ACalls_fn fn3 rfl ?_
  repeat' first
    | refine go rfl ?_
    | refine ifT rfl ?_
    | refine ifF rfl ?_
    | refine doT rfl rfl rfl rfl rfl (as0 rfl ?_)
    | refine doF rfl rfl rfl rfl rfl (as0 rfl ?_)
    | refine noT rfl rfl rfl rfl rfl ?_
    | refine noF rfl rfl rfl rfl rfl ?_
    | refine noU rfl rfl rfl rfl rfl rfl ?_
    | refine go_block ?_
  cases h1 : decide ((20 : Int) < (a.length : Int))
  · repeat' first
      | refine go rfl ?_
      | refine ifT rfl ?_
      | refine ifF rfl ?_
      | refine doT rfl rfl rfl rfl rfl (as0 rfl ?_)
      | refine doF rfl rfl rfl rfl rfl (as0 rfl ?_)
      | refine noT rfl rfl rfl rfl rfl ?_
      | refine noF rfl rfl rfl rfl rfl ?_
      | refine noU rfl rfl rfl rfl rfl rfl ?_
      | refine go_block ?_
    cases h2 : decide ((20 : Int) < (b.length : Int))
    · have l1 : a.length ≤ 20 := by have := of_decide_eq_false h1; omega
      have l2 : b.length ≤ 20 := by have := of_decide_eq_false h2; omega
      have hma : a.length < 9223372036854775807 := by omega
      have hmb : b.length < 9223372036854775807 := by omega
      repeat' first
        | refine go rfl ?_
        | refine ifT rfl ?_
        | refine ifF rfl ?_
        | refine doT rfl rfl rfl rfl rfl (as0 rfl ?_)
        | refine doF rfl rfl rfl rfl rfl (as0 rfl ?_)
        | refine noT rfl rfl rfl rfl rfl ?_
        | refine noF rfl rfl rfl rfl rfl ?_
        | refine noU rfl rfl rfl rfl rfl rfl ?_
        | refine go_block ?_
      refine opc rfl rfl rfl rfl rfl rfl rfl rfl rfl rfl (c9 ha hma (shK_mk ⟨_, rfl⟩ ?_))
      repeat' first
        | refine go rfl ?_
        | refine ifT rfl ?_
        | refine ifF rfl ?_
        | refine doT rfl rfl rfl rfl rfl (as0 rfl ?_)
        | refine doF rfl rfl rfl rfl rfl (as0 rfl ?_)
        | refine noT rfl rfl rfl rfl rfl ?_
        | refine noF rfl rfl rfl rfl rfl ?_
        | refine noU rfl rfl rfl rfl rfl rfl ?_
        | refine go_block ?_
      refine opc rfl rfl rfl rfl rfl rfl rfl rfl rfl rfl (c9 hb hmb (shK_mk ⟨_, rfl⟩ ?_))
      repeat' first
        | refine go rfl ?_
        | refine ifT rfl ?_
        | refine ifF rfl ?_
        | refine doT rfl rfl rfl rfl rfl (as0 rfl ?_)
        | refine doF rfl rfl rfl rfl rfl (as0 rfl ?_)
        | refine noT rfl rfl rfl rfl rfl ?_
        | refine noF rfl rfl rfl rfl rfl ?_
        | refine noU rfl rfl rfl rfl rfl rfl ?_
        | refine go_block ?_
      refine opc rfl rfl rfl rfl rfl rfl rfl rfl rfl rfl (c10 ha hma (shK_mk ⟨_, rfl⟩ ?_))
      cases hra : rightM a
      · repeat' first
          | refine go rfl ?_
          | refine ifT rfl ?_
          | refine ifF rfl ?_
          | refine doT rfl rfl rfl rfl rfl (as0 rfl ?_)
          | refine doF rfl rfl rfl rfl rfl (as0 rfl ?_)
          | refine noT rfl rfl rfl rfl rfl ?_
          | refine noF rfl rfl rfl rfl rfl ?_
          | refine noU rfl rfl rfl rfl rfl rfl ?_
          | refine go_block ?_
        refine doF rfl rfl rfl rfl rfl ?_
        refine as_call rfl rfl rfl rfl rfl rfl ?_
        refine c10 hb hmb (shK_mk ⟨_, rfl⟩ ?_)
        cases hrb : rightM b
        · repeat' first
            | refine go rfl ?_
            | refine ifT rfl ?_
            | refine ifF rfl ?_
            | refine doT rfl rfl rfl rfl rfl (as0 rfl ?_)
            | refine doF rfl rfl rfl rfl rfl (as0 rfl ?_)
            | refine noT rfl rfl rfl rfl rfl ?_
            | refine noF rfl rfl rfl rfl rfl ?_
            | refine noU rfl rfl rfl rfl rfl rfl ?_
            | refine go_block ?_
          refine doF rfl rfl rfl rfl rfl ?_
          refine as_call rfl rfl rfl rfl rfl rfl ?_
          refine c11 ha hb hma (shK_mk ⟨_, rfl⟩ ?_)
          repeat' first
            | refine go rfl ?_
            | refine ifT rfl ?_
            | refine ifF rfl ?_
            | refine doT rfl rfl rfl rfl rfl (as0 rfl ?_)
            | refine doF rfl rfl rfl rfl rfl (as0 rfl ?_)
            | refine noT rfl rfl rfl rfl rfl ?_
            | refine noF rfl rfl rfl rfl rfl ?_
            | refine noU rfl rfl rfl rfl rfl rfl ?_
            | refine go_block ?_
          refine doF rfl rfl rfl rfl rfl ?_
          refine as_call rfl rfl rfl rfl rfl rfl ?_
          refine c12 ha hb hma (shK_mk ⟨_, rfl⟩ ?_)
          repeat' first
            | refine go rfl ?_
            | refine ifT rfl ?_
            | refine ifF rfl ?_
            | refine doT rfl rfl rfl rfl rfl (as0 rfl ?_)
            | refine doF rfl rfl rfl rfl rfl (as0 rfl ?_)
            | refine noT rfl rfl rfl rfl rfl ?_
            | refine noF rfl rfl rfl rfl rfl ?_
            | refine noU rfl rfl rfl rfl rfl rfl ?_
            | refine go_block ?_
          rw [decide_self]
          repeat' first
            | refine go rfl ?_
            | refine ifT rfl ?_
            | refine ifF rfl ?_
            | refine doT rfl rfl rfl rfl rfl (as0 rfl ?_)
            | refine doF rfl rfl rfl rfl rfl (as0 rfl ?_)
            | refine noT rfl rfl rfl rfl rfl ?_
            | refine noF rfl rfl rfl rfl rfl ?_
            | refine noU rfl rfl rfl rfl rfl rfl ?_
            | refine go_block ?_
          refine opc rfl rfl rfl rfl rfl rfl rfl rfl rfl rfl (c8 hF fun σ' hx => shK_mk ⟨_, rfl⟩ ?_)
          repeat' first
            | refine go rfl ?_
            | refine ifT rfl ?_
            | refine ifF rfl ?_
            | refine doT rfl rfl rfl rfl rfl (as0 rfl ?_)
            | refine doF rfl rfl rfl rfl rfl (as0 rfl ?_)
            | refine noT rfl rfl rfl rfl rfl ?_
            | refine noF rfl rfl rfl rfl rfl ?_
            | refine noU rfl rfl rfl rfl rfl rfl ?_
            | refine go_block ?_
          refine go_ret rfl ?_
          exact h σ' hx
        · repeat' first
            | refine go rfl ?_
            | refine ifT rfl ?_
            | refine ifF rfl ?_
            | refine doT rfl rfl rfl rfl rfl (as0 rfl ?_)
            | refine doF rfl rfl rfl rfl rfl (as0 rfl ?_)
            | refine noT rfl rfl rfl rfl rfl ?_
            | refine noF rfl rfl rfl rfl rfl ?_
            | refine noU rfl rfl rfl rfl rfl rfl ?_
            | refine go_block ?_
          refine doF rfl rfl rfl rfl rfl ?_
          refine as_call rfl rfl rfl rfl rfl rfl ?_
          refine c11 ha hb hma (shK_mk ⟨_, rfl⟩ ?_)
          repeat' first
            | refine go rfl ?_
            | refine ifT rfl ?_
            | refine ifF rfl ?_
            | refine doT rfl rfl rfl rfl rfl (as0 rfl ?_)
            | refine doF rfl rfl rfl rfl rfl (as0 rfl ?_)
            | refine noT rfl rfl rfl rfl rfl ?_
            | refine noF rfl rfl rfl rfl rfl ?_
            | refine noU rfl rfl rfl rfl rfl rfl ?_
            | refine go_block ?_
          refine doF rfl rfl rfl rfl rfl ?_
          refine as_call rfl rfl rfl rfl rfl rfl ?_
          refine c12 ha hb hma (shK_mk ⟨_, rfl⟩ ?_)
          repeat' first
            | refine go rfl ?_
            | refine ifT rfl ?_
            | refine ifF rfl ?_
            | refine doT rfl rfl rfl rfl rfl (as0 rfl ?_)
            | refine doF rfl rfl rfl rfl rfl (as0 rfl ?_)
            | refine noT rfl rfl rfl rfl rfl ?_
            | refine noF rfl rfl rfl rfl rfl ?_
            | refine noU rfl rfl rfl rfl rfl rfl ?_
            | refine go_block ?_
          rw [decide_self]
          repeat' first
            | refine go rfl ?_
            | refine ifT rfl ?_
            | refine ifF rfl ?_
            | refine doT rfl rfl rfl rfl rfl (as0 rfl ?_)
            | refine doF rfl rfl rfl rfl rfl (as0 rfl ?_)
            | refine noT rfl rfl rfl rfl rfl ?_
            | refine noF rfl rfl rfl rfl rfl ?_
            | refine noU rfl rfl rfl rfl rfl rfl ?_
            | refine go_block ?_
          refine opc rfl rfl rfl rfl rfl rfl rfl rfl rfl rfl (c8 hF fun σ' hx => shK_mk ⟨_, rfl⟩ ?_)
          repeat' first
            | refine go rfl ?_
            | refine ifT rfl ?_
            | refine ifF rfl ?_
            | refine doT rfl rfl rfl rfl rfl (as0 rfl ?_)
            | refine doF rfl rfl rfl rfl rfl (as0 rfl ?_)
            | refine noT rfl rfl rfl rfl rfl ?_
            | refine noF rfl rfl rfl rfl rfl ?_
            | refine noU rfl rfl rfl rfl rfl rfl ?_
            | refine go_block ?_
          refine go_ret rfl ?_
          exact h σ' hx
      · repeat' first
          | refine go rfl ?_
          | refine ifT rfl ?_
          | refine ifF rfl ?_
          | refine doT rfl rfl rfl rfl rfl (as0 rfl ?_)
          | refine doF rfl rfl rfl rfl rfl (as0 rfl ?_)
          | refine noT rfl rfl rfl rfl rfl ?_
          | refine noF rfl rfl rfl rfl rfl ?_
          | refine noU rfl rfl rfl rfl rfl rfl ?_
          | refine go_block ?_
        refine doF rfl rfl rfl rfl rfl ?_
        refine as_call rfl rfl rfl rfl rfl rfl ?_
        refine c10 hb hmb (shK_mk ⟨_, rfl⟩ ?_)
        cases hrb : rightM b
        · repeat' first
            | refine go rfl ?_
            | refine ifT rfl ?_
            | refine ifF rfl ?_
            | refine doT rfl rfl rfl rfl rfl (as0 rfl ?_)
            | refine doF rfl rfl rfl rfl rfl (as0 rfl ?_)
            | refine noT rfl rfl rfl rfl rfl ?_
            | refine noF rfl rfl rfl rfl rfl ?_
            | refine noU rfl rfl rfl rfl rfl rfl ?_
            | refine go_block ?_
          refine doF rfl rfl rfl rfl rfl ?_
          refine as_call rfl rfl rfl rfl rfl rfl ?_
          refine c11 ha hb hma (shK_mk ⟨_, rfl⟩ ?_)
          repeat' first
            | refine go rfl ?_
            | refine ifT rfl ?_
            | refine ifF rfl ?_
            | refine doT rfl rfl rfl rfl rfl (as0 rfl ?_)
            | refine doF rfl rfl rfl rfl rfl (as0 rfl ?_)
            | refine noT rfl rfl rfl rfl rfl ?_
            | refine noF rfl rfl rfl rfl rfl ?_
            | refine noU rfl rfl rfl rfl rfl rfl ?_
            | refine go_block ?_
          refine doF rfl rfl rfl rfl rfl ?_
          refine as_call rfl rfl rfl rfl rfl rfl ?_
          refine c12 ha hb hma (shK_mk ⟨_, rfl⟩ ?_)
          repeat' first
            | refine go rfl ?_
            | refine ifT rfl ?_
            | refine ifF rfl ?_
            | refine doT rfl rfl rfl rfl rfl (as0 rfl ?_)
            | refine doF rfl rfl rfl rfl rfl (as0 rfl ?_)
            | refine noT rfl rfl rfl rfl rfl ?_
            | refine noF rfl rfl rfl rfl rfl ?_
            | refine noU rfl rfl rfl rfl rfl rfl ?_
            | refine go_block ?_
          rw [decide_self]
          repeat' first
            | refine go rfl ?_
            | refine ifT rfl ?_
            | refine ifF rfl ?_
            | refine doT rfl rfl rfl rfl rfl (as0 rfl ?_)
            | refine doF rfl rfl rfl rfl rfl (as0 rfl ?_)
            | refine noT rfl rfl rfl rfl rfl ?_
            | refine noF rfl rfl rfl rfl rfl ?_
            | refine noU rfl rfl rfl rfl rfl rfl ?_
            | refine go_block ?_
          refine opc rfl rfl rfl rfl rfl rfl rfl rfl rfl rfl (c8 hF fun σ' hx => shK_mk ⟨_, rfl⟩ ?_)
          repeat' first
            | refine go rfl ?_
            | refine ifT rfl ?_
            | refine ifF rfl ?_
            | refine doT rfl rfl rfl rfl rfl (as0 rfl ?_)
            | refine doF rfl rfl rfl rfl rfl (as0 rfl ?_)
            | refine noT rfl rfl rfl rfl rfl ?_
            | refine noF rfl rfl rfl rfl rfl ?_
            | refine noU rfl rfl rfl rfl rfl rfl ?_
            | refine go_block ?_
          refine go_ret rfl ?_
          exact h σ' hx
        · repeat' first
            | refine go rfl ?_
            | refine ifT rfl ?_
            | refine ifF rfl ?_
            | refine doT rfl rfl rfl rfl rfl (as0 rfl ?_)
            | refine doF rfl rfl rfl rfl rfl (as0 rfl ?_)
            | refine noT rfl rfl rfl rfl rfl ?_
            | refine noF rfl rfl rfl rfl rfl ?_
            | refine noU rfl rfl rfl rfl rfl rfl ?_
            | refine go_block ?_
          refine doF rfl rfl rfl rfl rfl ?_
          refine as_call rfl rfl rfl rfl rfl rfl ?_
          refine c11 ha hb hma (shK_mk ⟨_, rfl⟩ ?_)
          repeat' first
            | refine go rfl ?_
            | refine ifT rfl ?_
            | refine ifF rfl ?_
            | refine doT rfl rfl rfl rfl rfl (as0 rfl ?_)
            | refine doF rfl rfl rfl rfl rfl (as0 rfl ?_)
            | refine noT rfl rfl rfl rfl rfl ?_
            | refine noF rfl rfl rfl rfl rfl ?_
            | refine noU rfl rfl rfl rfl rfl rfl ?_
            | refine go_block ?_
          refine doF rfl rfl rfl rfl rfl ?_
          refine as_call rfl rfl rfl rfl rfl rfl ?_
          refine c12 ha hb hma (shK_mk ⟨_, rfl⟩ ?_)
          repeat' first
            | refine go rfl ?_
            | refine ifT rfl ?_
            | refine ifF rfl ?_
            | refine doT rfl rfl rfl rfl rfl (as0 rfl ?_)
            | refine doF rfl rfl rfl rfl rfl (as0 rfl ?_)
            | refine noT rfl rfl rfl rfl rfl ?_
            | refine noF rfl rfl rfl rfl rfl ?_
            | refine noU rfl rfl rfl rfl rfl rfl ?_
            | refine go_block ?_
          rw [decide_self]
          repeat' first
            | refine go rfl ?_
            | refine ifT rfl ?_
            | refine ifF rfl ?_
            | refine doT rfl rfl rfl rfl rfl (as0 rfl ?_)
            | refine doF rfl rfl rfl rfl rfl (as0 rfl ?_)
            | refine noT rfl rfl rfl rfl rfl ?_
            | refine noF rfl rfl rfl rfl rfl ?_
            | refine noU rfl rfl rfl rfl rfl rfl ?_
            | refine go_block ?_
          refine opc rfl rfl rfl rfl rfl rfl rfl rfl rfl rfl (c8 hF fun σ' hx => shK_mk ⟨_, rfl⟩ ?_)
          have hE : Ext σ σ' := hx
          have hG : Glob σ' := (Ext.keep (g := g) hE).glob hF.glob
          have ha' := hE.row ha
          have hb' := hE.row hb
          have hab := above_eq (right_nonneg hra) (right_nonneg hrb)
          have hone := above_one a b
          repeat' first
            | refine go rfl ?_
            | refine ifT rfl ?_
            | refine ifF rfl ?_
            | refine doT rfl rfl rfl rfl rfl (as0 rfl ?_)
            | refine doF rfl rfl rfl rfl rfl (as0 rfl ?_)
            | refine noT rfl rfl rfl rfl rfl ?_
            | refine noF rfl rfl rfl rfl rfl ?_
            | refine noU rfl rfl rfl rfl rfl rfl ?_
            | refine go_block ?_
          refine doT rfl rfl rfl rfl rfl ?_
          refine as_call rfl rfl rfl rfl rfl rfl ?_
          refine c13 hG.nib ha' hb' hma hmb (shK_mk ⟨_, rfl⟩ ?_)
          repeat' first
            | refine go rfl ?_
            | refine ifT rfl ?_
            | refine ifF rfl ?_
            | refine doT rfl rfl rfl rfl rfl (as0 rfl ?_)
            | refine doF rfl rfl rfl rfl rfl (as0 rfl ?_)
            | refine noT rfl rfl rfl rfl rfl ?_
            | refine noF rfl rfl rfl rfl rfl ?_
            | refine noU rfl rfl rfl rfl rfl rfl ?_
            | refine go_block ?_
          refine doT rfl rfl rfl rfl rfl ?_
          refine as_call rfl rfl rfl rfl rfl rfl ?_
          refine c14 ha' hb' (by omega) (by omega) (shK_mk ⟨_, rfl⟩ ?_)
          rw [← hab]
          cases hx1 : aboveM a b
          · repeat' first
              | refine go rfl ?_
              | refine ifT rfl ?_
              | refine ifF rfl ?_
              | refine doT rfl rfl rfl rfl rfl (as0 rfl ?_)
              | refine doF rfl rfl rfl rfl rfl (as0 rfl ?_)
              | refine noT rfl rfl rfl rfl rfl ?_
              | refine noF rfl rfl rfl rfl rfl ?_
              | refine noU rfl rfl rfl rfl rfl rfl ?_
              | refine go_block ?_
            refine doT rfl rfl rfl rfl rfl ?_
            refine as_call rfl rfl rfl rfl rfl rfl ?_
            refine c13 hG.nib ha' hb' hma hmb (shK_mk ⟨_, rfl⟩ ?_)
            repeat' first
              | refine go rfl ?_
              | refine ifT rfl ?_
              | refine ifF rfl ?_
              | refine doT rfl rfl rfl rfl rfl (as0 rfl ?_)
              | refine doF rfl rfl rfl rfl rfl (as0 rfl ?_)
              | refine noT rfl rfl rfl rfl rfl ?_
              | refine noF rfl rfl rfl rfl rfl ?_
              | refine noU rfl rfl rfl rfl rfl rfl ?_
              | refine go_block ?_
            refine doT rfl rfl rfl rfl rfl ?_
            refine as_call rfl rfl rfl rfl rfl rfl ?_
            refine c13 hG.nib hb' ha' hmb hma (shK_mk ⟨_, rfl⟩ ?_)
            rw [hx1] at hone ⊢
            cases hx2 : aboveM b a
            · rw [hx2] at hone
              have hc : cmpL a b = 0 := by
                by_cases hc : cmpL a b = 0
                · exact hc
                · simp [hc] at hone
              repeat' first
                | refine go rfl ?_
                | refine ifT rfl ?_
                | refine ifF rfl ?_
                | refine doT rfl rfl rfl rfl rfl (as0 rfl ?_)
                | refine doF rfl rfl rfl rfl rfl (as0 rfl ?_)
                | refine noT rfl rfl rfl rfl rfl ?_
                | refine noF rfl rfl rfl rfl rfl ?_
                | refine noU rfl rfl rfl rfl rfl rfl ?_
                | refine go_block ?_
              refine doT rfl rfl rfl rfl rfl ?_
              refine as_call rfl rfl rfl rfl rfl rfl ?_
              refine c11 ha' hb' hma (shK_mk ⟨_, rfl⟩ ?_)
              rw [hc]
              repeat' first
                | refine go rfl ?_
                | refine ifT rfl ?_
                | refine ifF rfl ?_
                | refine doT rfl rfl rfl rfl rfl (as0 rfl ?_)
                | refine doF rfl rfl rfl rfl rfl (as0 rfl ?_)
                | refine noT rfl rfl rfl rfl rfl ?_
                | refine noF rfl rfl rfl rfl rfl ?_
                | refine noU rfl rfl rfl rfl rfl rfl ?_
                | refine go_block ?_
              refine go_ret rfl ?_
              exact h σ' hE
            · rw [hx2] at hone
              have hc : decide (cmpL a b = 0) = false := by
                by_cases hc : cmpL a b = 0
                · simp [hc] at hone
                · exact decide_eq_false hc
              repeat' first
                | refine go rfl ?_
                | refine ifT rfl ?_
                | refine ifF rfl ?_
                | refine doT rfl rfl rfl rfl rfl (as0 rfl ?_)
                | refine doF rfl rfl rfl rfl rfl (as0 rfl ?_)
                | refine noT rfl rfl rfl rfl rfl ?_
                | refine noF rfl rfl rfl rfl rfl ?_
                | refine noU rfl rfl rfl rfl rfl rfl ?_
                | refine go_block ?_
              refine doT rfl rfl rfl rfl rfl ?_
              refine as_call rfl rfl rfl rfl rfl rfl ?_
              refine c11 ha' hb' hma (shK_mk ⟨_, rfl⟩ ?_)
              repeat' first
                | refine go rfl ?_
                | refine ifT rfl ?_
                | refine ifF rfl ?_
                | refine doT rfl rfl rfl rfl rfl (as0 rfl ?_)
                | refine doF rfl rfl rfl rfl rfl (as0 rfl ?_)
                | refine noT rfl rfl rfl rfl rfl ?_
                | refine noF rfl rfl rfl rfl rfl ?_
                | refine noU rfl rfl rfl rfl rfl rfl ?_
                | refine go_block ?_
              rw [hc]
              repeat' first
                | refine go rfl ?_
                | refine ifT rfl ?_
                | refine ifF rfl ?_
                | refine doT rfl rfl rfl rfl rfl (as0 rfl ?_)
                | refine doF rfl rfl rfl rfl rfl (as0 rfl ?_)
                | refine noT rfl rfl rfl rfl rfl ?_
                | refine noF rfl rfl rfl rfl rfl ?_
                | refine noU rfl rfl rfl rfl rfl rfl ?_
                | refine go_block ?_
              refine go_ret rfl ?_
              exact h σ' hE
          · repeat' first
              | refine go rfl ?_
              | refine ifT rfl ?_
              | refine ifF rfl ?_
              | refine doT rfl rfl rfl rfl rfl (as0 rfl ?_)
              | refine doF rfl rfl rfl rfl rfl (as0 rfl ?_)
              | refine noT rfl rfl rfl rfl rfl ?_
              | refine noF rfl rfl rfl rfl rfl ?_
              | refine noU rfl rfl rfl rfl rfl rfl ?_
              | refine go_block ?_
            refine doT rfl rfl rfl rfl rfl ?_
            refine as_call rfl rfl rfl rfl rfl rfl ?_
            refine c13 hG.nib ha' hb' hma hmb (shK_mk ⟨_, rfl⟩ ?_)
            repeat' first
              | refine go rfl ?_
              | refine ifT rfl ?_
              | refine ifF rfl ?_
              | refine doT rfl rfl rfl rfl rfl (as0 rfl ?_)
              | refine doF rfl rfl rfl rfl rfl (as0 rfl ?_)
              | refine noT rfl rfl rfl rfl rfl ?_
              | refine noF rfl rfl rfl rfl rfl ?_
              | refine noU rfl rfl rfl rfl rfl rfl ?_
              | refine go_block ?_
            refine doT rfl rfl rfl rfl rfl ?_
            refine as_call rfl rfl rfl rfl rfl rfl ?_
            refine c13 hG.nib hb' ha' hmb hma (shK_mk ⟨_, rfl⟩ ?_)
            rw [hx1] at hone ⊢
            cases hx2 : aboveM b a
            · rw [hx2] at hone
              have hc : decide (cmpL a b = 0) = false := by
                by_cases hc : cmpL a b = 0
                · simp [hc] at hone
                · exact decide_eq_false hc
              repeat' first
                | refine go rfl ?_
                | refine ifT rfl ?_
                | refine ifF rfl ?_
                | refine doT rfl rfl rfl rfl rfl (as0 rfl ?_)
                | refine doF rfl rfl rfl rfl rfl (as0 rfl ?_)
                | refine noT rfl rfl rfl rfl rfl ?_
                | refine noF rfl rfl rfl rfl rfl ?_
                | refine noU rfl rfl rfl rfl rfl rfl ?_
                | refine go_block ?_
              refine doT rfl rfl rfl rfl rfl ?_
              refine as_call rfl rfl rfl rfl rfl rfl ?_
              refine c11 ha' hb' hma (shK_mk ⟨_, rfl⟩ ?_)
              repeat' first
                | refine go rfl ?_
                | refine ifT rfl ?_
                | refine ifF rfl ?_
                | refine doT rfl rfl rfl rfl rfl (as0 rfl ?_)
                | refine doF rfl rfl rfl rfl rfl (as0 rfl ?_)
                | refine noT rfl rfl rfl rfl rfl ?_
                | refine noF rfl rfl rfl rfl rfl ?_
                | refine noU rfl rfl rfl rfl rfl rfl ?_
                | refine go_block ?_
              rw [hc]
              repeat' first
                | refine go rfl ?_
                | refine ifT rfl ?_
                | refine ifF rfl ?_
                | refine doT rfl rfl rfl rfl rfl (as0 rfl ?_)
                | refine doF rfl rfl rfl rfl rfl (as0 rfl ?_)
                | refine noT rfl rfl rfl rfl rfl ?_
                | refine noF rfl rfl rfl rfl rfl ?_
                | refine noU rfl rfl rfl rfl rfl rfl ?_
                | refine go_block ?_
              refine go_ret rfl ?_
              exact h σ' hE
            · rw [hx2] at hone
              have hc : cmpL a b = 0 := by
                by_cases hc : cmpL a b = 0
                · exact hc
                · simp [hc] at hone
              repeat' first
                | refine go rfl ?_
                | refine ifT rfl ?_
                | refine ifF rfl ?_
                | refine doT rfl rfl rfl rfl rfl (as0 rfl ?_)
                | refine doF rfl rfl rfl rfl rfl (as0 rfl ?_)
                | refine noT rfl rfl rfl rfl rfl ?_
                | refine noF rfl rfl rfl rfl rfl ?_
                | refine noU rfl rfl rfl rfl rfl rfl ?_
                | refine go_block ?_
              refine doT rfl rfl rfl rfl rfl ?_
              refine as_call rfl rfl rfl rfl rfl rfl ?_
              refine c11 ha' hb' hma (shK_mk ⟨_, rfl⟩ ?_)
              rw [hc]
              repeat' first
                | refine go rfl ?_
                | refine ifT rfl ?_
                | refine ifF rfl ?_
                | refine doT rfl rfl rfl rfl rfl (as0 rfl ?_)
                | refine doF rfl rfl rfl rfl rfl (as0 rfl ?_)
                | refine noT rfl rfl rfl rfl rfl ?_
                | refine noF rfl rfl rfl rfl rfl ?_
                | refine noU rfl rfl rfl rfl rfl rfl ?_
                | refine go_block ?_
              refine go_ret rfl ?_
              exact h σ' hE
    · repeat' first
        | refine go rfl ?_
        | refine ifT rfl ?_
        | refine ifF rfl ?_
        | refine doT rfl rfl rfl rfl rfl (as0 rfl ?_)
        | refine doF rfl rfl rfl rfl rfl (as0 rfl ?_)
        | refine noT rfl rfl rfl rfl rfl ?_
        | refine noF rfl rfl rfl rfl rfl ?_
        | refine noU rfl rfl rfl rfl rfl rfl ?_
        | refine go_block ?_
      refine opc rfl rfl rfl rfl rfl rfl rfl rfl rfl rfl (c8 hF fun σ' hx => shK_mk ⟨_, rfl⟩ ?_)
      repeat' first
        | refine go rfl ?_
        | refine ifT rfl ?_
        | refine ifF rfl ?_
        | refine doT rfl rfl rfl rfl rfl (as0 rfl ?_)
        | refine doF rfl rfl rfl rfl rfl (as0 rfl ?_)
        | refine noT rfl rfl rfl rfl rfl ?_
        | refine noF rfl rfl rfl rfl rfl ?_
        | refine noU rfl rfl rfl rfl rfl rfl ?_
        | refine go_block ?_
      refine go_ret rfl ?_
      exact h σ' hx
  · repeat' first
      | refine go rfl ?_
      | refine ifT rfl ?_
      | refine ifF rfl ?_
      | refine doT rfl rfl rfl rfl rfl (as0 rfl ?_)
      | refine doF rfl rfl rfl rfl rfl (as0 rfl ?_)
      | refine noT rfl rfl rfl rfl rfl ?_
      | refine noF rfl rfl rfl rfl rfl ?_
      | refine noU rfl rfl rfl rfl rfl rfl ?_
      | refine go_block ?_
    refine opc rfl rfl rfl rfl rfl rfl rfl rfl rfl rfl (c8 hF fun σ' hx => shK_mk ⟨_, rfl⟩ ?_)
    repeat' first
      | refine go rfl ?_
      | refine ifT rfl ?_
      | refine ifF rfl ?_
      | refine doT rfl rfl rfl rfl rfl (as0 rfl ?_)
      | refine doF rfl rfl rfl rfl rfl (as0 rfl ?_)
      | refine noT rfl rfl rfl rfl rfl ?_
      | refine noF rfl rfl rfl rfl rfl ?_
      | refine noU rfl rfl rfl rfl rfl rfl ?_
      | refine go_block ?_
    refine go_ret rfl ?_
    exact h σ' hx

end Go.Eng
