/-
 TreeShapes: the operations joined, and the law. No condition. (Printed by gen_shapes.py.)
-/
import Derived.Test.YtdodmlebinomjaaDoorTreE
import Derived.Test.YtdodmlebinomjaaDoorTrS0
import Derived.Test.YtdodmlebinomjaaDoorTrS1
import Derived.Test.YtdodmlebinomjaaDoorTrS2
import Derived.Test.YtdodmlebinomjaaDoorTrS3
import Derived.Test.YtdodmlebinomjaaDoorTrS4
import Derived.Test.YtdodmlebinomjaaDoorTrS5
import Derived.Test.YtdodmlebinomjaaDoorTrS6
import Derived.Test.YtdodmlebinomjaaDoorTrS7
import Derived.Test.YtdodmlebinomjaaDoorTrS8
import Derived.Test.YtdodmlebinomjaaDoorTrS9
import Derived.Test.YtdodmlebinomjaaDoorTrS10
import Derived.Test.YtdodmlebinomjaaDoorTrS11
import Derived.Test.YtdodmlebinomjaaDoorTrS12
import Derived.Test.YtdodmlebinomjaaDoorTrS13
import Derived.Test.YtdodmlebinomjaaDoorTrS14
import Derived.Test.YtdodmlebinomjaaDoorTrS15
import Derived.Test.YtdodmlebinomjaaDoorTrS16
import Derived.Test.YtdodmlebinomjaaDoorTrS17
import Derived.Test.YtdodmlebinomjaaDoorTrS18
import Derived.Test.YtdodmlebinomjaaDoorTrS19
import Derived.Test.YtdodmlebinomjaaDoorTrS20
import Derived.Test.YtdodmlebinomjaaDoorTrS21
import Derived.Test.YtdodmlebinomjaaDoorTrS22
set_option linter.unusedVariables false
namespace Go.Pe
open Go Go.Am Go.RowKit

theorem NrZ (n : Nat) (hn : n < 21) : (List.range 8).map (Nab 0 n) = (List.range 8).map (Nac 0 n) :=
 match n, hn with
 | 0, _ => Nn9
 | 1, _ => Noa
 | 2, _ => Nob
 | 3, _ => Noc
 | 4, _ => Nod
 | 5, _ => Noe
 | 6, _ => Nof
 | 7, _ => Nog
 | 8, _ => Noh
 | 9, _ => Noi
 | 10, _ => Ni1
 | 11, _ => Ni2
 | 12, _ => Ni3
 | 13, _ => Ni4
 | 14, _ => Ni5
 | 15, _ => Ni6
 | 16, _ => Ni7
 | 17, _ => Ni8
 | 18, _ => Ni9
 | 19, _ => Nja
 | 20, _ => Njb
 | n + 21, h => absurd h (by omega)
theorem Nr0 (n : Nat) (hn : n < 21) : (List.range 8).map (Nab 1 n) = (List.range 8).map (Nac 1 n) :=
 match n, hn with
 | 0, _ => Noj
 | 1, _ => Nok
 | 2, _ => Nol
 | 3, _ => Nom
 | 4, _ => Non
 | 5, _ => Noo
 | 6, _ => Nop
 | 7, _ => Noq
 | 8, _ => Nos
 | 9, _ => Nou
 | 10, _ => NkO
 | 11, _ => NkP
 | 12, _ => NkQ
 | 13, _ => NkR
 | 14, _ => NkS
 | 15, _ => NkT
 | 16, _ => NkU
 | 17, _ => NkV
 | 18, _ => NkW
 | 19, _ => NkX
 | 20, _ => NkY
 | n + 21, h => absurd h (by omega)
theorem Nr1 (n : Nat) (hn : n < 21) : (List.range 8).map (Nab 2 n) = (List.range 8).map (Nac 2 n) :=
 match n, hn with
 | 0, _ => Nov
 | 1, _ => Nox
 | 2, _ => Noy
 | 3, _ => Noz
 | 4, _ => NoA
 | 5, _ => NoB
 | 6, _ => NoC
 | 7, _ => NoD
 | 8, _ => NoE
 | 9, _ => NoF
 | 10, _ => Nlt
 | 11, _ => Nlu
 | 12, _ => Nlv
 | 13, _ => Nlw
 | 14, _ => Nlx
 | 15, _ => Nly
 | 16, _ => Nlz
 | 17, _ => NlA
 | 18, _ => NlB
 | 19, _ => NlC
 | 20, _ => NlD
 | n + 21, h => absurd h (by omega)
theorem Nr2 (n : Nat) (hn : n < 21) : (List.range 8).map (Nab 3 n) = (List.range 8).map (Nac 3 n) :=
 match n, hn with
 | 0, _ => NoG
 | 1, _ => NoH
 | 2, _ => NoI
 | 3, _ => NoJ
 | 4, _ => NoK
 | 5, _ => NoL
 | 6, _ => NoM
 | 7, _ => NoN
 | 8, _ => NoO
 | 9, _ => NoP
 | 10, _ => NlE
 | 11, _ => NlF
 | 12, _ => NlG
 | 13, _ => NlH
 | 14, _ => NlI
 | 15, _ => NlJ
 | 16, _ => NlK
 | 17, _ => NlL
 | 18, _ => NlM
 | 19, _ => NlN
 | 20, _ => NlO
 | n + 21, h => absurd h (by omega)
theorem Nr3 (n : Nat) (hn : n < 21) : (List.range 8).map (Nab 4 n) = (List.range 8).map (Nac 4 n) :=
 match n, hn with
 | 0, _ => NoQ
 | 1, _ => NoR
 | 2, _ => NoS
 | 3, _ => NoT
 | 4, _ => NoU
 | 5, _ => NoV
 | 6, _ => NoW
 | 7, _ => NoX
 | 8, _ => NoY
 | 9, _ => NoZ
 | 10, _ => NlP
 | 11, _ => NlQ
 | 12, _ => NlR
 | 13, _ => NlS
 | 14, _ => NlT
 | 15, _ => NlU
 | 16, _ => NlV
 | 17, _ => NlW
 | 18, _ => NlX
 | 19, _ => NlY
 | 20, _ => NlZ
 | n + 21, h => absurd h (by omega)
theorem Nr4 (n : Nat) (hn : n < 21) : (List.range 8).map (Nab 5 n) = (List.range 8).map (Nac 5 n) :=
 match n, hn with
 | 0, _ => No0
 | 1, _ => No1
 | 2, _ => No2
 | 3, _ => No3
 | 4, _ => No4
 | 5, _ => No5
 | 6, _ => No6
 | 7, _ => No7
 | 8, _ => No8
 | 9, _ => No9
 | 10, _ => Nl0
 | 11, _ => Nl1
 | 12, _ => Nl2
 | 13, _ => Nl3
 | 14, _ => Nl4
 | 15, _ => Nl5
 | 16, _ => Nl6
 | 17, _ => Nl7
 | 18, _ => Nl8
 | 19, _ => Nl9
 | 20, _ => Nma
 | n + 21, h => absurd h (by omega)
theorem Nr5 (n : Nat) (hn : n < 21) : (List.range 8).map (Nab 6 n) = (List.range 8).map (Nac 6 n) :=
 match n, hn with
 | 0, _ => Npa
 | 1, _ => Npb
 | 2, _ => Npc
 | 3, _ => Npd
 | 4, _ => Npe
 | 5, _ => Npf
 | 6, _ => Npg
 | 7, _ => Nph
 | 8, _ => Npi
 | 9, _ => Npj
 | 10, _ => Nmb
 | 11, _ => Nmc
 | 12, _ => Nmd
 | 13, _ => Nme
 | 14, _ => Nmf
 | 15, _ => Nmg
 | 16, _ => Nmh
 | 17, _ => Nmi
 | 18, _ => Nmj
 | 19, _ => Nmk
 | 20, _ => Nml
 | n + 21, h => absurd h (by omega)
theorem Nr6 (n : Nat) (hn : n < 21) : (List.range 8).map (Nab 7 n) = (List.range 8).map (Nac 7 n) :=
 match n, hn with
 | 0, _ => Npk
 | 1, _ => Npl
 | 2, _ => Npm
 | 3, _ => Npn
 | 4, _ => Npo
 | 5, _ => Npp
 | 6, _ => Npq
 | 7, _ => Npr
 | 8, _ => Nps
 | 9, _ => Npt
 | 10, _ => Nmm
 | 11, _ => Nmn
 | 12, _ => Nmo
 | 13, _ => Nmp
 | 14, _ => Nmq
 | 15, _ => Nmr
 | 16, _ => Nms
 | 17, _ => Nmt
 | 18, _ => Nmu
 | 19, _ => Nmv
 | 20, _ => Nmw
 | n + 21, h => absurd h (by omega)
theorem Nr7 (n : Nat) (hn : n < 21) : (List.range 8).map (Nab 8 n) = (List.range 8).map (Nac 8 n) :=
 match n, hn with
 | 0, _ => Npu
 | 1, _ => Npv
 | 2, _ => Npw
 | 3, _ => Npx
 | 4, _ => Npy
 | 5, _ => Npz
 | 6, _ => NpA
 | 7, _ => NpB
 | 8, _ => NpC
 | 9, _ => NpD
 | 10, _ => Nmx
 | 11, _ => Nmy
 | 12, _ => Nmz
 | 13, _ => NmA
 | 14, _ => NmB
 | 15, _ => NmC
 | 16, _ => NmD
 | 17, _ => NmE
 | 18, _ => NmF
 | 19, _ => NmG
 | 20, _ => NmH
 | n + 21, h => absurd h (by omega)
theorem Nr8 (n : Nat) (hn : n < 21) : (List.range 8).map (Nab 9 n) = (List.range 8).map (Nac 9 n) :=
 match n, hn with
 | 0, _ => NpE
 | 1, _ => NpF
 | 2, _ => NpG
 | 3, _ => NpH
 | 4, _ => NpI
 | 5, _ => NpJ
 | 6, _ => NpK
 | 7, _ => NpL
 | 8, _ => NpM
 | 9, _ => NpN
 | 10, _ => NmI
 | 11, _ => NmJ
 | 12, _ => NmK
 | 13, _ => NmL
 | 14, _ => NmM
 | 15, _ => NmN
 | 16, _ => NmO
 | 17, _ => NmP
 | 18, _ => NmQ
 | 19, _ => NmR
 | 20, _ => NmS
 | n + 21, h => absurd h (by omega)
theorem NqK (n : Nat) (hn : n < 21) : (List.range 8).map (Nab 10 n) = (List.range 8).map (Nac 10 n) :=
 match n, hn with
 | 0, _ => Njc
 | 1, _ => Njd
 | 2, _ => Nje
 | 3, _ => Njf
 | 4, _ => Njg
 | 5, _ => Njh
 | 6, _ => Nji
 | 7, _ => Njj
 | 8, _ => Njk
 | 9, _ => Njl
 | 10, _ => NfS
 | 11, _ => NfT
 | 12, _ => NfU
 | 13, _ => NfV
 | 14, _ => NfW
 | 15, _ => NfX
 | 16, _ => NfY
 | 17, _ => NfZ
 | 18, _ => Nf0
 | 19, _ => Nf1
 | 20, _ => Nf2
 | n + 21, h => absurd h (by omega)
theorem NqL (n : Nat) (hn : n < 21) : (List.range 8).map (Nab 11 n) = (List.range 8).map (Nac 11 n) :=
 match n, hn with
 | 0, _ => Njm
 | 1, _ => Njn
 | 2, _ => Njo
 | 3, _ => Njp
 | 4, _ => Njq
 | 5, _ => Njr
 | 6, _ => Njs
 | 7, _ => Njt
 | 8, _ => Nju
 | 9, _ => Njv
 | 10, _ => Nf3
 | 11, _ => Nf4
 | 12, _ => Nf5
 | 13, _ => Nf6
 | 14, _ => Nf7
 | 15, _ => Nf8
 | 16, _ => Nf9
 | 17, _ => Nga
 | 18, _ => Ngb
 | 19, _ => Ngc
 | 20, _ => Ngd
 | n + 21, h => absurd h (by omega)
theorem NqM (n : Nat) (hn : n < 21) : (List.range 8).map (Nab 12 n) = (List.range 8).map (Nac 12 n) :=
 match n, hn with
 | 0, _ => Njw
 | 1, _ => Njx
 | 2, _ => Njy
 | 3, _ => Njz
 | 4, _ => NjA
 | 5, _ => NjB
 | 6, _ => NjC
 | 7, _ => NjD
 | 8, _ => NjE
 | 9, _ => NjF
 | 10, _ => Nge
 | 11, _ => Ngf
 | 12, _ => Ngg
 | 13, _ => Ngh
 | 14, _ => Ngi
 | 15, _ => Ngj
 | 16, _ => Ngk
 | 17, _ => Ngl
 | 18, _ => Ngm
 | 19, _ => Ngn
 | 20, _ => Ngo
 | n + 21, h => absurd h (by omega)
theorem NqN (n : Nat) (hn : n < 21) : (List.range 8).map (Nab 13 n) = (List.range 8).map (Nac 13 n) :=
 match n, hn with
 | 0, _ => NjG
 | 1, _ => NjH
 | 2, _ => NjI
 | 3, _ => NjJ
 | 4, _ => NjK
 | 5, _ => NjL
 | 6, _ => NjM
 | 7, _ => NjN
 | 8, _ => NjO
 | 9, _ => NjP
 | 10, _ => Ngp
 | 11, _ => Ngq
 | 12, _ => Ngr
 | 13, _ => Ngs
 | 14, _ => Ngt
 | 15, _ => Ngu
 | 16, _ => Ngv
 | 17, _ => Ngw
 | 18, _ => Ngx
 | 19, _ => Ngy
 | 20, _ => Ngz
 | n + 21, h => absurd h (by omega)
theorem NqO (n : Nat) (hn : n < 21) : (List.range 8).map (Nab 14 n) = (List.range 8).map (Nac 14 n) :=
 match n, hn with
 | 0, _ => NjQ
 | 1, _ => NjR
 | 2, _ => NjS
 | 3, _ => NjT
 | 4, _ => NjU
 | 5, _ => NjV
 | 6, _ => NjW
 | 7, _ => NjX
 | 8, _ => NjY
 | 9, _ => NjZ
 | 10, _ => NgA
 | 11, _ => NgB
 | 12, _ => NgC
 | 13, _ => NgD
 | 14, _ => NgE
 | 15, _ => NgF
 | 16, _ => NgG
 | 17, _ => NgH
 | 18, _ => NgI
 | 19, _ => NgJ
 | 20, _ => NgK
 | n + 21, h => absurd h (by omega)
theorem NqP (n : Nat) (hn : n < 21) : (List.range 8).map (Nab 15 n) = (List.range 8).map (Nac 15 n) :=
 match n, hn with
 | 0, _ => Nj0
 | 1, _ => Nj1
 | 2, _ => Nj2
 | 3, _ => Nj3
 | 4, _ => Nj4
 | 5, _ => Nj5
 | 6, _ => Nj6
 | 7, _ => Nj7
 | 8, _ => Nj8
 | 9, _ => Nj9
 | 10, _ => NgL
 | 11, _ => NgM
 | 12, _ => NgN
 | 13, _ => NgO
 | 14, _ => NgP
 | 15, _ => NgQ
 | 16, _ => NgR
 | 17, _ => NgS
 | 18, _ => NgT
 | 19, _ => NgU
 | 20, _ => NgV
 | n + 21, h => absurd h (by omega)
theorem NqQ (n : Nat) (hn : n < 21) : (List.range 8).map (Nab 16 n) = (List.range 8).map (Nac 16 n) :=
 match n, hn with
 | 0, _ => Nka
 | 1, _ => Nkb
 | 2, _ => Nkc
 | 3, _ => Nkd
 | 4, _ => Nke
 | 5, _ => Nkf
 | 6, _ => Nkg
 | 7, _ => Nkh
 | 8, _ => Nki
 | 9, _ => Nkj
 | 10, _ => NgW
 | 11, _ => NgX
 | 12, _ => NgY
 | 13, _ => NgZ
 | 14, _ => Ng0
 | 15, _ => Ng1
 | 16, _ => Ng2
 | 17, _ => Ng3
 | 18, _ => Ng4
 | 19, _ => Ng5
 | 20, _ => Ng6
 | n + 21, h => absurd h (by omega)
theorem NqR (n : Nat) (hn : n < 21) : (List.range 8).map (Nab 17 n) = (List.range 8).map (Nac 17 n) :=
 match n, hn with
 | 0, _ => Nkk
 | 1, _ => Nkl
 | 2, _ => Nkm
 | 3, _ => Nkn
 | 4, _ => Nko
 | 5, _ => Nkp
 | 6, _ => Nkq
 | 7, _ => Nkr
 | 8, _ => Nks
 | 9, _ => Nkt
 | 10, _ => Ng7
 | 11, _ => Ng8
 | 12, _ => Ng9
 | 13, _ => Nha
 | 14, _ => Nhb
 | 15, _ => Nhc
 | 16, _ => Nhd
 | 17, _ => Nhe
 | 18, _ => Nhf
 | 19, _ => Nhg
 | 20, _ => Nhh
 | n + 21, h => absurd h (by omega)
theorem NqS (n : Nat) (hn : n < 21) : (List.range 8).map (Nab 18 n) = (List.range 8).map (Nac 18 n) :=
 match n, hn with
 | 0, _ => Nku
 | 1, _ => Nkv
 | 2, _ => Nkw
 | 3, _ => Nkx
 | 4, _ => Nky
 | 5, _ => Nkz
 | 6, _ => NkA
 | 7, _ => NkB
 | 8, _ => NkC
 | 9, _ => NkD
 | 10, _ => Nhi
 | 11, _ => Nhj
 | 12, _ => Nhk
 | 13, _ => Nhl
 | 14, _ => Nhm
 | 15, _ => Nhn
 | 16, _ => Nho
 | 17, _ => Nhp
 | 18, _ => Nhq
 | 19, _ => Nhr
 | 20, _ => Nhs
 | n + 21, h => absurd h (by omega)
theorem NqT (n : Nat) (hn : n < 21) : (List.range 8).map (Nab 19 n) = (List.range 8).map (Nac 19 n) :=
 match n, hn with
 | 0, _ => NkE
 | 1, _ => NkF
 | 2, _ => NkG
 | 3, _ => NkH
 | 4, _ => NkI
 | 5, _ => NkJ
 | 6, _ => NkK
 | 7, _ => NkL
 | 8, _ => NkM
 | 9, _ => NkN
 | 10, _ => Nht
 | 11, _ => Nhu
 | 12, _ => Nhv
 | 13, _ => Nhw
 | 14, _ => Nhx
 | 15, _ => Nhy
 | 16, _ => Nhz
 | 17, _ => NhA
 | 18, _ => NhB
 | 19, _ => NhC
 | 20, _ => NhD
 | n + 21, h => absurd h (by omega)
theorem NqU (n : Nat) (hn : n < 21) : (List.range 8).map (Nab 20 n) = (List.range 8).map (Nac 20 n) :=
 match n, hn with
 | 0, _ => NkZ
 | 1, _ => Nk0
 | 2, _ => Nk1
 | 3, _ => Nk2
 | 4, _ => Nk3
 | 5, _ => Nk4
 | 6, _ => Nk5
 | 7, _ => Nk6
 | 8, _ => Nk7
 | 9, _ => Nk8
 | 10, _ => NhE
 | 11, _ => NhF
 | 12, _ => NhG
 | 13, _ => NhH
 | 14, _ => NhI
 | 15, _ => NhJ
 | 16, _ => NhK
 | 17, _ => NhL
 | 18, _ => NhM
 | 19, _ => NhN
 | 20, _ => NhO
 | n + 21, h => absurd h (by omega)
theorem NqV (n : Nat) (hn : n < 21) : (List.range 8).map (Nab 21 n) = (List.range 8).map (Nac 21 n) :=
 match n, hn with
 | 0, _ => Nk9
 | 1, _ => Nla
 | 2, _ => Nlb
 | 3, _ => Nlc
 | 4, _ => Nld
 | 5, _ => Nle
 | 6, _ => Nlf
 | 7, _ => Nlg
 | 8, _ => Nlh
 | 9, _ => Nli
 | 10, _ => NhP
 | 11, _ => NhQ
 | 12, _ => NhR
 | 13, _ => NhS
 | 14, _ => NhT
 | 15, _ => NhU
 | 16, _ => NhV
 | 17, _ => NhW
 | 18, _ => NhX
 | 19, _ => NhY
 | 20, _ => NhZ
 | n + 21, h => absurd h (by omega)
theorem NqW (n : Nat) (hn : n < 21) : (List.range 8).map (Nab 22 n) = (List.range 8).map (Nac 22 n) :=
 match n, hn with
 | 0, _ => Nlj
 | 1, _ => Nlk
 | 2, _ => Nll
 | 3, _ => Nlm
 | 4, _ => Nln
 | 5, _ => Nlo
 | 6, _ => Nlp
 | 7, _ => Nlq
 | 8, _ => Nlr
 | 9, _ => Nls
 | 10, _ => Nh0
 | 11, _ => Nh1
 | 12, _ => Nh2
 | 13, _ => Nh3
 | 14, _ => Nh4
 | 15, _ => Nh5
 | 16, _ => Nh6
 | 17, _ => Nh7
 | 18, _ => Nh8
 | 19, _ => Nh9
 | 20, _ => Nia
 | n + 21, h => absurd h (by omega)
theorem sho (o n : Nat) (ho : o < 23) (hn : n < 21) : (List.range 8).map (Nab o n) = (List.range 8).map (Nac o n) :=
 match o, ho with
 | 0, _ => NrZ n hn
 | 1, _ => Nr0 n hn
 | 2, _ => Nr1 n hn
 | 3, _ => Nr2 n hn
 | 4, _ => Nr3 n hn
 | 5, _ => Nr4 n hn
 | 6, _ => Nr5 n hn
 | 7, _ => Nr6 n hn
 | 8, _ => Nr7 n hn
 | 9, _ => Nr8 n hn
 | 10, _ => NqK n hn
 | 11, _ => NqL n hn
 | 12, _ => NqM n hn
 | 13, _ => NqN n hn
 | 14, _ => NqO n hn
 | 15, _ => NqP n hn
 | 16, _ => NqQ n hn
 | 17, _ => NqR n hn
 | 18, _ => NqS n hn
 | 19, _ => NqT n hn
 | 20, _ => NqU n hn
 | 21, _ => NqV n hn
 | 22, _ => NqW n hn
 | o + 23, h => absurd h (by omega)
theorem NqX (o n : Nat) (a b c : Bool) (ho : o < 23) (hn : n < 21) : fvP cfgT5 300 9 [.s (NpR o n a b c)] = some (Ne8 o n a b c) := by
 have key : ∀ h, h < 8 → Nab o n h = Nac o n h := fun h hh => List.map_inj_left.1 (sho o n ho hn) h (List.mem_range.2 hh)
 have h0 := key 0 (by omega)
 have h1 := key 1 (by omega)
 have h2 := key 2 (by omega)
 have h3 := key 3 (by omega)
 have h4 := key 4 (by omega)
 have h5 := key 5 (by omega)
 have h6 := key 6 (by omega)
 have h7 := key 7 (by omega)
 unfold Nab Nac at h0 h1 h2 h3 h4 h5 h6 h7
 cases a <;> cases b <;> cases c
 ·exact h0
 ·exact h4
 ·exact h2
 ·exact h6
 ·exact h1
 ·exact h5
 ·exact h3
 ·exact h7
theorem Ne6 (w : Int) (h1 : (Lit.int .u8 w).wf = true) (z : List PV) (hz : (Sh.cons .b (.cons .b (.cons .b .nil))).Is z) (ln : Int) (h2 : (Lit.int .u8 ln).wf = true) : ∃ fuel, evP cfgT5 fuel 5 [.i .u8 w, .agg z, .i .u8 ln] = some (.b true) := Ndr NqX w h1 z hz ln h2
end Go.Pe
