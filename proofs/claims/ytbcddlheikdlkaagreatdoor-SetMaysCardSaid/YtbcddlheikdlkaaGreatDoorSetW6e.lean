/-
  THE WALK of package set's walk over one item: all kinds.
-/
import Derived.Test.YtbcddlheikdlkaaGreatDoorSetW6b
import Derived.Test.YtbcddlheikdlkaaGreatDoorSetW6c
import Derived.Test.YtbcddlheikdlkaaGreatDoorSetW6d
set_option linter.unusedVariables false
set_option linter.unusedSimpArgs false
namespace Go.Proofs.YtbcddlheikdlkaaGreatDoor.S
open Go.RowKit

set_option maxRecDepth 100000 in
set_option maxHeartbeats 16000000 in
theorem item_calls (ns : List Nm) (k : Nat) (t : List UInt8) (p : List Cm) (th el : List It) (hp : ∀ c ∈ p, ∀ a ∈ c.args, ArOk a) (hs : th.length + el.length ≤ 9223372036854775807) (htl : t.length ≤ 9223372036854775807)
    (hth : RowMay ns th) (hel : RowMay ns el) (g b off : Nat) (nsv pv tv ev : Value) (deep : Nat) (loop : Bool) (n m : Nat) (w0 w : World) (hV : NmV nsv ns w0) (hP : Cms 0 pv p w0) (hT : Its 0 (fun _ => True) w0 tv th) (hE : Its 0 (fun _ => True) w0 ev el)
    (c0 : w0.cell? ⟨b, off, none⟩ = some (.int .i64 k)) (c1 : w0.cell? ⟨b, off + 1, none⟩ = some (.string ⟨t.toArray⟩)) (c2 : w0.cell? ⟨b, off + 2, none⟩ = some pv) (c3 : w0.cell? ⟨b, off + 3, none⟩ = some tv) (c4 : w0.cell? ⟨b, off + 4, none⟩ = some ev)
    (hb : Below w0.heap.size w0 w) (hg : w0.heap.size ≤ g) (hB : WkB g nsv n m w) (hd : deep ≤ 16) (hn : n ≤ 1024) (hm : m ≤ 65536) :
    Calls Tryz.prog 74 #[.pointer (some ⟨g, 0, none⟩), .pointer (some ⟨b, off, none⟩), .int .i64 deep, .bool loop] w (MayPost (may1 (ns.map Prod.fst) (.mk k t p th el) deep loop n m) g nsv w0) := by
  by_cases hk345 : k = 3 ∨ k = 4 ∨ k = 5
  · rcases hk345 with hk | hk | hk <;> rcases (by cases loop <;> simp : loop = false ∨ loop = true) with hlp | hlp
    · exact item_k3f ns k t p th el hp hs htl hth hel g b off nsv pv tv ev deep loop n m w0 w hV hP hT hE c0 c1 c2 c3 c4 hb hg hB hd hn hm hk hlp
    · exact item_k3t ns k t p th el hp hs htl hth hel g b off nsv pv tv ev deep loop n m w0 w hV hP hT hE c0 c1 c2 c3 c4 hb hg hB hd hn hm hk hlp
    · exact item_k4f ns k t p th el hp hs htl hth hel g b off nsv pv tv ev deep loop n m w0 w hV hP hT hE c0 c1 c2 c3 c4 hb hg hB hd hn hm hk hlp
    · exact item_k4t ns k t p th el hp hs htl hth hel g b off nsv pv tv ev deep loop n m w0 w hV hP hT hE c0 c1 c2 c3 c4 hb hg hB hd hn hm hk hlp
    · exact item_k5f ns k t p th el hp hs htl hth hel g b off nsv pv tv ev deep loop n m w0 w hV hP hT hE c0 c1 c2 c3 c4 hb hg hB hd hn hm hk hlp
    · exact item_k5t ns k t p th el hp hs htl hth hel g b off nsv pv tv ev deep loop n m w0 w hV hP hT hE c0 c1 c2 c3 c4 hb hg hB hd hn hm hk hlp
  · exact item_plain ns k t p th el hp hs htl hth hel g b off nsv pv tv ev deep loop n m w0 w hV hP hT hE c0 c1 c2 c3 c4 hb hg hB hd hn hm hk345
end Go.Proofs.YtbcddlheikdlkaaGreatDoor.S
