/-
  Rows of bytes that a call owns. No condition.
-/
import Derived.Test.YtgonekmmbeedeaaMem
import Derived.Laws.BytesArg
namespace Go.Proofs.Ytgonekmmbeedeaa
open Go.RowKit

/-! ### bytes -/
def byteV (b : UInt8) : Value := .int .u8 b.toNat
/-- v is a row of the call's own that holds these bytes. -/
def OwnB (w : World) (base : Nat) (v : Value) (bs : List UInt8) : Prop := w.ownsRow base 5 1 v bs.length (bs.map byteV)
theorem elByte : El Try.prog 26 5 (.int .u8 0) 1 1 := El.mk_ Try.underlying26 (by kernel_rfl) rfl (by omega)
theorem OwnB.nil (w : World) (base : Nat) : OwnB w base (.slice none 0 0) [] := World.ownsRow_nil _ _ _ _
theorem OwnB.lit {w0 : World} {base : Nat} (cs : Array Value) (bs : List UInt8) (h : cs.toList = bs.map byteV) (hb : base ≤ w0.heap.size) (hm : bs.length ≤ maxLen) (n : Nat) (hn : n = bs.length) :
    OwnB (w0.alloc (.cells cs 5)) base (.slice (some ⟨w0.heap.size, 0, none⟩) n n) bs := by
  subst hn
  have hs : cs.size = bs.length * 1 := by have := congrArg List.length h; simpa using this
  have := World.ownsRow_lit (base := base) (e := 5) (size := 1) w0 cs bs.length hb hm hs
  unfold OwnB; rw [← h]; exact this
theorem oneByte (bs : List UInt8) : ∀ u ∈ bs.map byteV, u.oneCell' = true := by
  intro u hu; rw [List.mem_map] at hu; obtain ⟨b, _, rfl⟩ := hu; rfl
theorem app_bytes {w0 : World} {ops : Array Oper} {rest : List Oper} {o : Oper} {a : Act} {Q : Exit → Act → World → Prop} {base : Nat} {v : Value} {bs : List UInt8} (hgd : o.guard = none) (s x : Operand)
    (ho : o.op = .call { callee := .builtin .append, args := #[s, x], argTypes := #[26, 26] }) (hown : OwnB w0 base v bs) (hs : a.eval s = v) (cs : Array Value) (T : TypeId) (news : List UInt8) (m c : Nat)
    (hx : a.eval x = .slice (some ⟨w0.heap.size, 0, none⟩) m c) (hcs : cs.toList = news.map byteV) (hm : m = news.length) (hlen : bs.length + m ≤ 140737488355328) (hbase : base ≤ w0.heap.size)
    (h : ∀ v' w', OwnB w' base v' (bs ++ news) → w0.grownBy w' v.ownBlock → Below base w0 w' → wpList Try.prog ops Q rest (a.put o.dst v') w') : wpList Try.prog ops Q (o :: rest) a (w0.alloc (.cells cs T)) := by
  subst hm
  refine app_lit elByte hgd s x ho hown hs cs T _ c hx (by have := congrArg List.length hcs; simpa using this) (by rw [hcs]; exact oneByte _) (by unfold maxLen; omega) (by omega) hbase ?_
  intro v' w' g1 g2 _ _ g5
  refine h v' w' ?_ g2 g5
  unfold OwnB; rw [List.length_append, List.map_append, ← hcs]; exact g1
theorem mk_inj {a b : List UInt8} (h : a = b) : (⟨a.toArray⟩ : ByteArray) = ⟨b.toArray⟩ := by rw [h]
theorem OwnB.str {w : World} {base : Nat} {v : Value} {bs : List UInt8} (h : OwnB w base v bs) : Sem.run Try.prog (convert 26 9 v) w = .ok (.string ⟨bs.toArray⟩) w := by
  rcases h.2 with ⟨rfl, h0⟩ | ⟨g, cap, cur, rfl, _, hg, hnc, _, hsz, htk⟩
  · have := run_convert_bytes_nil (P := Try.prog) w 26 5 Try.underlying26 Try.underlying5 0 0 9 Try.underlying9
    rw [this]
    obtain rfl : bs = [] := List.eq_nil_of_length_eq_zero h0
    rfl
  · have hstr : strOfNums (bs.map fun b => (b.toNat : Int)) = ⟨bs.toArray⟩ := by
      have h1 : (strOfNums (bs.map fun b => (b.toNat : Int))).data.toList = bs := by
        rw [strOfNums_data, List.map_map]
        conv => rhs; rw [← List.map_id bs]
        apply List.map_congr_left; intro b _; simp
      cases h2 : strOfNums (bs.map fun b => (b.toNat : Int)) with | mk a => rw [h2] at h1; subst h1; simp
    rw [← hstr]
    refine run_convert_bytes_arg w 26 5 Try.underlying26 Try.underlying5 g 0 bs.length cap (bs.map fun b => (b.toNat : Int)) (by simp) (fun i hi => ?_) 9 Try.underlying9
    have hc : w.cell? ⟨g, 0 + i, none⟩ = cur[i]? := by simp [World.cell?, hg]
    rw [hc]
    have h3 : cur.toList[i]? = (bs.map byteV)[i]? := by rw [← htk]; rw [List.getElem?_take]; rw [if_pos (by omega)]
    rw [Array.getElem?_toList] at h3
    rw [h3]
    simp [byteV, List.getD, List.getElem?_eq_getElem hi]

end Go.Proofs.Ytgonekmmbeedeaa
