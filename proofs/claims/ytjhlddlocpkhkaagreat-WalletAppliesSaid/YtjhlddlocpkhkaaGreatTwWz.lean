/- Wallet: the words that its walks use (a root for prune.py). -/
import Derived.Test.YtjhlddlocpkhkaaGreatTwII
import Derived.Test.YtjhlddlocpkhkaaGreatTwBR
import Derived.Test.YtjhlddlocpkhkaaGreatTwBW
namespace Go.Proofs.YtjhlddlocpkhkaaGreat
open Go.RowKit
theorem wz_uses : True := by
  first
  | trivial
  | (exact absurd natural_Valid (natural_Of natural_Small natural_Small' natural_Of' integer_made integer_Valid integer_Valid' IntOk B_num num_B valid_B B_inj E0 B_isEmpty_true B_isEmpty_false valid_iff Reads.cut Reads.of_own Reads.at_ Reads.below Reads.more wpList_append_any step_append_any below_grown wpList_append_own OwnB OwnB.nil_ OwnB.form OwnS OwnS.nil_ OwnS.form OwnS.kept SLs SLs.new SLs.to SLs.drew SLs.below SLs.more SLs.at_ SLs.of_row SLs.next SLs.keep SLs.reads SLs.nil_ nat_info sgetD_lt SRow SRow.new info_parts below2 below_drewN bcell ret_bool ret_se ret_int small_lim u64_lt_lim two_boxes cell_of_row all_not' all_of' toList_inj natSmall_bound cells8 Row Bk Mb wpList_append_mb make_bytes_cap u8_infoE block_of_add add_of_add u64_or_nat nat_join or_shl8 enc trimL lead))
end Go.Proofs.YtjhlddlocpkhkaaGreat
